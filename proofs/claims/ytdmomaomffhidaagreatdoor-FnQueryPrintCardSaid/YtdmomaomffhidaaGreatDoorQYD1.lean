/-
  The program's parser, first half.
  Conditions: none.
-/
import Derived.Test.YtdmomaomffhidaaGreatDoorQYC1
set_option linter.unusedVariables false
set_option linter.unusedSimpArgs false
set_option linter.unusedSectionVars false
set_option linter.unnecessarySimpa false
set_option maxRecDepth 8000
namespace Go.Proofs.YtdmomaomffhidaaGreatDoor
open Go Go.Dv
open Go.Vc (D dm dq cV bq)
theorem rU (L:List Tok) (hL:L.length<=1048576) (hT:∀t∈L,t.text.size<=1048576) (s:PS) (k:Nat) (kind:Nat) (x:ByteArray) (hk:k<=100) (ha:s.a<=L.length):Cl Tryz.prog 182 [.c (.p 9000 0),vi k,vi kind,vs x] [PB L s] fun r os=>r=vb (lI L s k kind x)/\os=[PB L s]:=by
 obtain⟨a,b⟩:=s
 have ha:a<=L.length:=ha
 have hw:IntKind.i64.wrap ((a:Int)+k)=((a+k:Nat):Int):=aE (n:=(a:Int)+k) aa aa
 cases b with
 |true=>
  have e:lI L ⟨a,true⟩ k kind x=false:=rfl
  rw[e]
  refine ai ac false Tryz.func182 rfl ae ?_
  simp only[Tryz.f182,tt,seval]
  simp only[tt,seval,PB,hw]
  refine⟨_,[PB L ⟨a,true⟩],⟨rfl,rfl⟩,aq ?_⟩
  simp only[tt,seval,PB]
 |false=>
  refine ai ac false Tryz.func182 rfl ae ?_
  simp only[Tryz.f182,tt,seval]
  simp only[tt,seval,PB,hw]
  refine fun _=>?_
  by_cases hlt:a+k<L.length
  ·have h1:decide (((a+k:Nat):Int)<(L.length:Int))=true:=ax aa
   have hx:L[a+k]?=some L[a+k]:=aC hlt
   have e:lI L ⟨a,false⟩ k kind x=(decide (L[a+k].kind=kind)&&decide (L[a+k].text=x)):=by
    unfold lI jC
    simp only[Bool.false_eq_true,if_false,hx]
   have i0:((0:Int)<=((a+k:Nat):Int))=True:=eq_true aa
   have iL:(((a+k:Nat):Int)<(L.length:Int))=True:=eq_true aa
   have iT:(a+k<L.length)=True:=eq_true hlt
   rw[e]
   generalize L[a+k]=tk at *
   generalize a+k=j at *
   simp only[tt,seval,cW hx pg,i0,iL,Tok.row]
   cases hk1:decide (tk.kind=(kind:Int)) with
   |true=>
    simp only[tt,seval,cW hx pg,i0,iL,Tok.row]
    trace_state
    refine⟨_,[PB L ⟨a,false⟩],⟨rfl,rfl⟩,aq ?_⟩
    simp only[tt,seval,PB]
   |false=>
    simp only[tt,seval]
    trace_state
    refine⟨_,[PB L ⟨a,false⟩],⟨rfl,rfl⟩,aq ?_⟩
    simp only[tt,seval,PB]
  ·have h1:decide (((a+k:Nat):Int)<(L.length:Int))=false:=aB aa
   have e:lI L ⟨a,false⟩ k kind x=false:=by
    unfold lI jC
    simp only[Bool.false_eq_true,if_false,List.getElem?_eq_none_iff.2 (show L.length<=a+k by omega)]
   rw[e]
   simp only[tt,seval,h1]
   refine⟨_,[PB L ⟨a,false⟩],⟨rfl,rfl⟩,aq ?_⟩
   simp only[tt,seval,PB]
theorem ke (L:List Tok) (hL:L.length<=1048576) (hT:∀t∈L,t.text.size<=1048576) (s:PS) (k:Nat) (ha:s.a<=L.length):Cl Tryz.prog 181 [.c (.p 9000 0),vi k] [PB L s] fun r os=>r=vb (mv L s k)/\os=[PB L s]:=by
 obtain⟨a,b⟩:=s
 have ha:a<=L.length:=ha
 cases b with
 |true=>
  have e:mv L ⟨a,true⟩ k=false:=rfl
  rw[e]
  refine ai ac false Tryz.func181 rfl ae ?_
  simp only[Tryz.f181,tt,seval]
  refine dDrawn.intro [] (dW [0,2,4,6,8,10,12,14,16,18,20,22,24,26,28,30,32,34,36,38,40,42,44,46,48,50,52,54,56,58,60,62,64,66,68,70,72,74,76,78,80,82,84,87,88,90]) ae ?_
  simp only[tt,seval]
  simp only[tt,seval,PB]
  refine⟨_,[PB L ⟨a,true⟩],⟨rfl,rfl⟩,aq ?_⟩
  simp only[tt,seval,PB]
 |false=>
  refine ai ac false Tryz.func181 rfl ae ?_
  simp only[Tryz.f181,tt,seval]
  refine dDrawn.intro [] (dW [0,2,4,6,8,10,12,14,16,18,20,22,24,26,28,30,32,34,36,38,40,42,44,46,48,50,52,54,56,58,60,62,64,66,68,70,72,74,76,78,80,82,84,87,88,90]) ae ?_
  simp only[tt,seval]
  simp only[tt,seval,PB]
  refine fun _=>?_
  by_cases hlt:a<L.length
  ·have h1:decide ((a:Int)<(L.length:Int))=true:=ax aa
   have hx:L[a]?=some L[a]:=aC hlt
   have ht:=hT L[a] (aM hlt)
   have e:mv L ⟨a,false⟩ k=(decide (L[a].kind=k)&&aR L[a]):=by
    unfold mv jC
    simp only[Bool.false_eq_true,if_false,Nat.add_zero,hx]
   have i0:((0:Int)<=(a:Int))=True:=eq_true aa
   have iL:((a:Int)<(L.length:Int))=True:=eq_true aa
   have iT:(a<L.length)=True:=eq_true hlt
   rw[e]
   generalize L[a]=tk at *
   simp only[tt,seval,cW hx pg,i0,iL,Tok.row]
   cases hk1:decide (tk.kind=(k:Int)) with
   |true=>
    simp only[tt,seval,cW hx pg,i0,iL,Tok.row]
    refine cZ (dw tk ht) ?_ ?_<;>simp only[tt,seval,Tok.row]
    refine⟨_,[PB L ⟨a,false⟩],⟨rfl,rfl⟩,aq ?_⟩
    simp only[tt,seval,PB]
   |false=>
    simp only[tt,seval]
    refine⟨_,[PB L ⟨a,false⟩],⟨rfl,rfl⟩,aq ?_⟩
    simp only[tt,seval,PB]
  ·have h1:decide ((a:Int)<(L.length:Int))=false:=aB aa
   have e:mv L ⟨a,false⟩ k=false:=by
    unfold mv jC
    simp only[Bool.false_eq_true,if_false,Nat.add_zero,List.getElem?_eq_none_iff.2 (show L.length<=a by omega)]
   rw[e]
   simp only[tt,seval,h1]
   refine⟨_,[PB L ⟨a,false⟩],⟨rfl,rfl⟩,aq ?_⟩
   simp only[tt,seval,PB]
theorem wX (L:List Tok) (hL:L.length<=1048576) (hT:∀t∈L,t.text.size<=1048576) (s:PS) (k:Nat) (w:ByteArray) (hw:w=kw k) (ha:s.a<=L.length):Cl Tryz.prog 161 [.c (.p 9000 0),vs w] [PB L s] fun r os=>r=vb (aA L s k)/\os=[PB L s]:=by
 subst hw
 rw[show aA L s k=lI L s 0 1 (kw k) from rfl]
 refine ai ac false Tryz.func161 rfl ae ?_
 simp only[Tryz.f161,tt,seval]
 refine cS (rU L hL hT s 0 1 (kw k) aa ha) ?_ ?_<;>simp only[tt,seval,PB]
 refine⟨_,[PB L s],⟨rfl,rfl⟩,aq ?_⟩
 simp only[tt,seval,PB]
theorem Bb (L:List Tok) (hL:L.length<=1048576) (hT:∀t∈L,t.text.size<=1048576) (s:PS) (c:UInt8) (ha:s.a<=L.length):Cl Tryz.prog 184 [.c (.p 9000 0),vs ⟨#[c]⟩] [PB L s] fun r os=>r=vb (cr L s c)/\os=[PB L s]:=by
 rw[show cr L s c=lI L s 0 5 ⟨#[c]⟩ from rfl]
 refine ai ac false Tryz.func184 rfl ae ?_
 simp only[Tryz.f184,tt,seval]
 refine cS (rU L hL hT s 0 5 ⟨#[c]⟩ aa ha) ?_ ?_<;>simp only[tt,seval,PB]
 refine⟨_,[PB L s],⟨rfl,rfl⟩,aq ?_⟩
 simp only[tt,seval,PB]
theorem bD (L:List Tok) (hL:L.length<=1048576) (hT:∀t∈L,t.text.size<=1048576) (s:PS) (k:Nat) (w:ByteArray) (hw:w=kw k) (ha:s.a<=L.length):Cl Tryz.prog 103 [.c (.p 9000 0),vs w] [PB L s] fun r os=>r=vb (aA L s k)/\os=[PB L (tkIf (aA L s k) s)]:=by
 refine ai ac false Tryz.func103 rfl ae ?_
 simp only[Tryz.f103,tt,seval]
 refine cS (wX L hL hT s k w hw ha) ?_ ?_<;>simp only[tt,seval,PB]
 cases c:aA L s k with
 |true=>
  have hlt:=(aH c).2
  simp only[tt,seval]
  rw[aE (n:=(s.a:Int)+1) aa aa]
  refine⟨_,[PB L (adv s)],⟨rfl,rfl⟩,aq ?_⟩
  simp only[tt,seval,PB,adv]
  omega
 |false=>
  simp only[tt,seval]
  refine⟨_,[PB L s],⟨rfl,rfl⟩,aq ?_⟩
  simp only[tt,seval,PB]
theorem du (L:List Tok) (hL:L.length<=1048576) (hT:∀t∈L,t.text.size<=1048576) (s:PS) (c:UInt8) (ha:s.a<=L.length):Cl Tryz.prog 105 [.c (.p 9000 0),vs ⟨#[c]⟩] [PB L s] fun r os=>r=vb (cr L s c)/\os=[PB L (tkIf (cr L s c) s)]:=by
 refine ai ac false Tryz.func105 rfl ae ?_
 simp only[Tryz.f105,tt,seval]
 refine cS (Bb L hL hT s c ha) ?_ ?_<;>simp only[tt,seval,PB]
 cases c:cr L s c with
 |true=>
  have hlt:=(bt c).2
  simp only[tt,seval]
  rw[aE (n:=(s.a:Int)+1) aa aa]
  refine⟨_,[PB L (adv s)],⟨rfl,rfl⟩,aq ?_⟩
  simp only[tt,seval,PB,adv]
  omega
 |false=>
  simp only[tt,seval]
  refine⟨_,[PB L s],⟨rfl,rfl⟩,aq ?_⟩
  simp only[tt,seval,PB]
theorem gC (L:List Tok) (hL:L.length<=1048576) (hT:∀t∈L,t.text.size<=1048576) (s:PS) (k:Nat) (w:ByteArray) (hw:w=kw k) (ha:s.a<=L.length):Cl Tryz.prog 102 [.c (.p 9000 0),vs w] [PB L s] fun r os=>r = .tu []/\os=[PB L (must (aA L s k) s)]:=by
 refine ai ac false Tryz.func102 rfl ae ?_
 simp only[Tryz.f102,tt,seval]
 refine cS (bD L hL hT s k w hw ha) ?_ ?_<;>simp only[tt,seval,PB]
 cases c:aA L s k with
 |true=>
  simp only[tt,seval,pn,Ks]
  refine⟨_,[PB L (adv s)],⟨rfl,rfl⟩,aq ?_⟩
  simp only[tt,seval,PB]
 |false=>
  simp only[tt,seval,po,Kt]
  refine⟨_,[PB L (fl s)],⟨rfl,rfl⟩,aq ?_⟩
  simp only[tt,seval,PB,fl]
theorem fJ (L:List Tok) (hL:L.length<=1048576) (hT:∀t∈L,t.text.size<=1048576) (s:PS) (c:UInt8) (ha:s.a<=L.length):Cl Tryz.prog 222 [.c (.p 9000 0),vs ⟨#[c]⟩] [PB L s] fun r os=>r = .tu []/\os=[PB L (must (cr L s c) s)]:=by
 refine ai ac false Tryz.func222 rfl ae ?_
 simp only[Tryz.f222,tt,seval]
 refine cS (du L hL hT s c ha) ?_ ?_<;>simp only[tt,seval,PB]
 cases c:cr L s c with
 |true=>
  simp only[tt,seval,pn,Ks]
  refine⟨_,[PB L (adv s)],⟨rfl,rfl⟩,aq ?_⟩
  simp only[tt,seval,PB]
 |false=>
  simp only[tt,seval,po,Kt]
  refine⟨_,[PB L (fl s)],⟨rfl,rfl⟩,aq ?_⟩
  simp only[tt,seval,PB,fl]
theorem eO (L:List Tok) (hL:L.length<=1048576) (hT:∀t∈L,t.text.size<=1048576) (s:PS) (k:Nat) (ha:s.a<=L.length):Cl Tryz.prog 162 [.c (.p 9000 0),vi k] [PB L s] fun r os=>r=vs (mText L k s).1/\os=[PB L (mText L k s).2]:=by
 refine ai ac false Tryz.func162 rfl ae ?_
 simp only[Tryz.f162,tt,seval]
 refine cS (ke L hL hT s k ha) ?_ ?_<;>simp only[tt,seval,PB]
 cases c:mv L s k with
 |true=>
  obtain⟨hb,hlt⟩:=lL c
  rw[rt c]
  simp only[tt,seval]
  rw[aE (n:=(s.a:Int)+1) aa aa]
  refine dDrawn.intro [] (dW [0,2,4,6,8,10,12,14,16,18,20,22,24]) ae ?_
  simp only[tt,seval]
  have e1:IntKind.i64.wrap ((s.a:Int)+1-1)=s.a:=by rw[aE (n:=(s.a:Int)+1-1) aa aa];omega
  have hx:L[s.a]?=some L[s.a]:=aC hlt
  have e2:bP L s=L[s.a].text:=by
   unfold bP jC
   rw[hb]
   simp only[Bool.false_eq_true,if_false,Nat.add_zero,hx]
  have i0:((0:Int)<=(s.a:Int))=True:=eq_true aa
  have iL:((s.a:Int)<(L.length:Int))=True:=eq_true aa
  have iT:(s.a<L.length)=True:=eq_true hlt
  rw[e2]
  generalize L[s.a]=tk at *
  simp only[tt,seval,e1,cW hx pg,i0,iL,Tok.row]
  refine⟨_,[PB L (adv s)],⟨rfl,rfl⟩,aq ?_⟩
  simp only[tt,seval,PB,adv]
  omega
 |false=>
  have e:mText L k s=(⟨#[]⟩,fl s):=by rw[mText,if_neg (by rw[c];simp)]
  rw[e]
  simp only[tt,seval]
  refine⟨vs ⟨#[]⟩,[PB L (fl s)],⟨rfl,rfl⟩,aq ?_⟩
  simp only[tt,seval,PB,fl]
theorem jF (L:List Tok) (hL:L.length<=1048576) (hT:∀t∈L,t.text.size<=1048576) (s:PS) (ha:s.a<=L.length):Cl Tryz.prog 109 [.c (.p 9000 0)] [PB L s] fun r os=>r=vi (mNum L s).1/\os=[PB L (mNum L s).2]:=by
 have hsz:(mText L 3 s).1.size<=1048576:=by
  unfold mText
  split
  ·exact rq hL hT s
  ·exact Nat.zero_le _
 have e:mNum L s=(jB (mText L 3 s).1,(mText L 3 s).2):=rfl
 rw[e]
 refine ai ac false Tryz.func109 rfl ae ?_
 simp only[Tryz.f109,tt,seval]
 refine cS (eO L hL hT s 3 ha) ?_ ?_<;>simp only[tt,seval,PB]
 generalize (mText L 3 s).1=x at *
 refine cZ (tC x hsz) ?_ ?_<;>simp only[tt,seval,pb]
 refine⟨_,[PB L (mText L 3 s).2],⟨rfl,rfl⟩,aq ?_⟩
 simp only[tt,seval,PB]
theorem I8 (L:List Tok) (hL:L.length<=1048576) (hT:∀t∈L,t.text.size<=1048576) (s:PS) (ha:s.a<=L.length):Cl Tryz.prog 43 [.c (.p 9000 0)] [PB L s] fun r os=>r=vi (nY L s)/\os=[PB L s]:=by
 refine ai ac false Tryz.func43 rfl ae ?_
 simp only[Tryz.f43,tt,seval]
 refine dDrawn.intro [] (dW [0,2,4,6,8,10,12,14,16,18,20,22,24,26,28,30]) ae ?_
 simp only[tt,seval]
 simp only[tt,seval,PB]
 cases hb:s.b with
 |true=>
  have e:nY L s=s.a:=if_neg (by rw[hb];simp)
  rw[e]
  simp only[tt,seval]
  exact⟨_,_,⟨rfl,rfl⟩,aq (by simp only[tt,seval])⟩
 |false=>
  simp only[tt,seval]
  refine fun _=>ab (fun he=>?_) (fun he=>?_)
  ·have e:nY L s=s.a:=if_neg aa
   rw[e]
   exact⟨_,_,⟨rfl,rfl⟩,aq (by simp only[tt,seval])⟩
  ·have e:nY L s = -1:=if_pos ⟨hb,aa⟩
   rw[e]
   exact⟨_,_,⟨rfl,rfl⟩,aq (by simp only[tt,seval])⟩
theorem A6 (L:List Tok) (hL:L.length<=1048576) (hT:∀t∈L,t.text.size<=1048576) (s:PS) (ha:s.a<=L.length):Cl Tryz.prog 183 [.c (.p 9000 0)] [PB L s] fun r os=>r=vs (asM L s).1/\os=[PB L (asM L s).2]:=by
 refine ai ac false Tryz.func183 rfl ae ?_
 simp only[Tryz.f183,tt,seval]
 refine cS (bD L hL hT s 12 ⟨#[65,83]⟩ ae ha) ?_ ?_<;>simp only[tt,seval,PB]
 cases c:aA L s 12 with
 |true=>
  have hm:asM L s=mText L 2 (adv s):=by rw[asM,if_pos c]
  rw[hm]
  simp only[tt,seval,pn]
  refine cS (eO L hL hT (adv s) 2 (dy (aH c))) ?_ ?_<;>simp only[tt,seval,PB]
  refine⟨_,[PB L (mText L 2 (adv s)).2],⟨rfl,rfl⟩,aq ?_⟩
  simp only[tt,seval,PB]
 |false=>
  have hm:asM L s=(z0,s):=by rw[asM,if_neg (by rw[c];simp)]
  rw[hm]
  simp only[tt,seval,po]
  refine⟨vs z0,[PB L s],⟨rfl,rfl⟩,aq ?_⟩
  simp only[tt,seval,PB,z0]
def mb (n:Nat):List D:=[.lit (.int .i64 n)]
theorem Dl (n:Nat):(mb n).length=1:=rfl
theorem tZ (L:List Tok) (hL:L.length<=1048576) (hT:∀t∈L,t.text.size<=1048576) (s:PS) (ops:List Nat) (hn:ops.length<=100) (ho:∀op∈ops,1<=op/\op<=100) (ha:s.a<=L.length):Cl Tryz.prog 246 [.c (.p 9000 0),.c (.sl ops.length (ops.flatMap mb) none)] [PB L s] fun r os=>r=vi (jd L s ops)/\os=[PB L (tkIf (decide (jd L s ops≠0)) s)]:=by
 refine ai ac false Tryz.func246 rfl ae ?_
 simp only[Tryz.f246,tt,seval]
 refine fun _=>?_
 refine dLoop.intro (fun f Lo p=>∃i:Nat,f 10=vi i/\i<=ops.length/\jd L s (ops.drop i)=jd L s ops/\Lo=[(9000,.str (PB L s))]/\p=none) (fun f _ _=>(ops.length-fH (f 10)).toNat) [(9000,.str (PB L s))] none ⟨ak rfl (ap _),au _,?_⟩ ?_
 ·simp only[tt,seval]
  exact⟨0,rfl,Nat.zero_le _,rfl⟩
 ·rintro g Lo p ⟨i,h10,hi,hin,rfl,rfl⟩
  simp only[tt,seval] at h10
  simp only[tt,seval,h10,Int.ofNat_lt]
  refine ab (fun hlt=>?_) (fun hge=>?_)
  ·have hlt:i<ops.length:=by omega
   have hx:ops[i]?=some ops[i]:=aC hlt
   obtain⟨ho1,ho2⟩:=ho ops[i] (aM hlt)
   rw[List.drop_eq_getElem_cons hlt,jd] at hin
   refine⟨aa,aa,_,aI Dl hx,by rw[mb];simp,?_⟩
   generalize ops[i]=op at *
   simp only[tt,seval,mb]
   by_cases o1:op=1
   ·have d1:decide ((op:Int)=1)=true:=ax aa
    simp only[tt,seval,d1]
    have hk:lJ L s op=lI L s 0 (1:Nat) (j8 op):=by
     unfold lJ
     first|rw[if_pos aa]|rw[if_neg aa]
     rfl
    rw[hk] at hin
    refine cZ (gj op) ?_ ?_<;>simp only[tt,seval]
    refine cS (rU L hL hT s 0 1 (j8 op) aa ha) ?_ ?_<;>simp only[tt,seval,PB,h10]
    cases c:lI L s 0 (1:Nat) (j8 op) with
    |true=>
     rw[if_pos c] at hin
     have hlt2:=(ni c).2
     rw[<-hin]
     have h0:decide (op≠0)=true:=ax aa
     simp only[tt,seval]
     rw[aE (n:=(s.a:Int)+1) aa aa]
     refine⟨vi op,[PB L (adv s)],⟨rfl,by rw[h0];rfl⟩,aq ?_⟩
     simp only[tt,seval,PB,adv]
     omega
    |false=>
     rw[if_neg (by rw[c];simp)] at hin
     simp only[tt,seval]
     rw[eR i aa]
     exact⟨[(9000,.str (PB L s))],none,ak rfl (ap _),au _,⟨i+1,rfl,aa,hin,rfl,rfl⟩,az⟩
   ·have d1:decide ((op:Int)=1)=false:=aB aa
    by_cases o2:op=2
    ·have d2:decide ((op:Int)=2)=true:=ax aa
     simp only[tt,seval,d1,d2]
     have hk:lJ L s op=lI L s 0 (1:Nat) (j8 op):=by
      unfold lJ
      first|rw[if_pos aa]|rw[if_neg aa]
      rfl
     rw[hk] at hin
     refine cZ (gj op) ?_ ?_<;>simp only[tt,seval]
     refine cS (rU L hL hT s 0 1 (j8 op) aa ha) ?_ ?_<;>simp only[tt,seval,PB,h10]
     cases c:lI L s 0 (1:Nat) (j8 op) with
     |true=>
      rw[if_pos c] at hin
      have hlt2:=(ni c).2
      rw[<-hin]
      have h0:decide (op≠0)=true:=ax aa
      simp only[tt,seval]
      rw[aE (n:=(s.a:Int)+1) aa aa]
      refine⟨vi op,[PB L (adv s)],⟨rfl,by rw[h0];rfl⟩,aq ?_⟩
      simp only[tt,seval,PB,adv]
      omega
     |false=>
      rw[if_neg (by rw[c];simp)] at hin
      simp only[tt,seval]
      rw[eR i aa]
      exact⟨[(9000,.str (PB L s))],none,ak rfl (ap _),au _,⟨i+1,rfl,aa,hin,rfl,rfl⟩,az⟩
    ·have d2:decide ((op:Int)=2)=false:=aB aa
     simp only[tt,seval,d1,d2]
     have hk:lJ L s op=lI L s 0 (5:Nat) (j8 op):=by
      unfold lJ
      first|rw[if_pos aa]|rw[if_neg aa]
      rfl
     rw[hk] at hin
     refine cZ (gj op) ?_ ?_<;>simp only[tt,seval]
     refine cS (rU L hL hT s 0 5 (j8 op) aa ha) ?_ ?_<;>simp only[tt,seval,PB,h10]
     cases c:lI L s 0 (5:Nat) (j8 op) with
     |true=>
      rw[if_pos c] at hin
      have hlt2:=(ni c).2
      rw[<-hin]
      have h0:decide (op≠0)=true:=ax aa
      simp only[tt,seval]
      rw[aE (n:=(s.a:Int)+1) aa aa]
      refine⟨vi op,[PB L (adv s)],⟨rfl,by rw[h0];rfl⟩,aq ?_⟩
      simp only[tt,seval,PB,adv]
      omega
     |false=>
      rw[if_neg (by rw[c];simp)] at hin
      simp only[tt,seval]
      rw[eR i aa]
      exact⟨[(9000,.str (PB L s))],none,ak rfl (ap _),au _,⟨i+1,rfl,aa,hin,rfl,rfl⟩,az⟩
  ·have:i=ops.length:=by omega
   subst this
   rw[List.drop_length] at hin
   have h0:jd L s ops=0:=hin.symm
   rw[h0]
   simp only[tt,seval]
   exact⟨_,[PB L s],⟨rfl,rfl⟩,aq (by simp only[tt,seval,PB])⟩
end Go.Proofs.YtdmomaomffhidaaGreatDoor
set_option maxRecDepth 8000
namespace Go.Proofs.YtdmomaomffhidaaGreatDoor
open Go Go.Dv Go.Cv
open Go.Vc (D dm dq cV bq)
theorem Dm (op:Nat) (a b:Expr) (Ak As Bk Bs:List (List Nat)):ClT Tryz.prog 247 [vi op,.ag (av a.row [Ak,As]),.ag (av b.row [Bk,Bs])] [] (Ak++(As++(Bk++Bs))).flatten fun r os=>os=[]/\∃Hk Hs,r = .ag (av (iS op a b).row [Hk,Hs]):=by
 obtain⟨k1,p1,n1,v1,q1,m1,ks1,ss1⟩:=a
 obtain⟨k2,p2,n2,v2,q2,m2,ks2,ss2⟩:=b
 simp only[am,av]
 refine rN ac (some (Ak++(As++(Bk++Bs)))) _ (fun ps h=>by injection h with h;subst h;first|rfl|simp) Tryz.func247 rfl ae ?_
 simp only[Tryz.f247,tt,seval]
 refine fun G=>⟨_,[],⟨rfl,G::(Ak++(As++(Bk++Bs))),[],rfl⟩,aq ?_⟩
 simp only[tt,seval,pq,iS,zVal,z0,am,av]
 first|done|exact mu
def ja (L:List Tok) (fn:FuncId) (m:PM Expr):Prop:=∀s e s',m s=some (e,s')->s.a<=L.length->Cl Tryz.prog fn [.c (.p 9000 0)] [PB L s] fun r os=>(∃Fk Fs,r = .ag (av (e).row [Fk,Fs]))/\os=[PB L s']
set_option maxHeartbeats 2000000 in
theorem gS (L:List Tok) (hL:L.length<=1048576) (hT:∀t∈L,t.text.size<=1048576) {f:PM Expr} (okf:OkM (L:=L) f) (g:FuncId) (hg:ja L g f) (lv:Nat) (hn:(gk lv).length<=100) (ho:∀op∈gk lv,1<=op/\op<=100) (s:PS) (x:Expr) (s':PS) (h:(match f s with|none=>none|some (e,s1)=>cj L f lv (L.length+1) e s1)=some (x,s')) (ha:s.a<=L.length):Cl Tryz.prog 206 [.c (.p 9000 0),.c (.fn g [9000] []),.c (.sl (gk lv).length ((gk lv).flatMap mb) none)] [PB L s] fun r os=>(∃Fk Fs,r = .ag (av (x).row [Fk,Fs]))/\os=[PB L s']:=by
 split at h
 ·cases h
 rename_i e s1 he
 have ha1:=(okf _ _ _ he).2.1 ha
 have c1:=hg _ _ _ he ha
 obtain⟨k1,p1,n1,v1,q1,m1,ks1,ss1⟩:=e
 rw[am] at c1
 refine ai ac true Tryz.func206 rfl ae ?_
 simp only[Tryz.f206,tt,seval]
 refine CallQ.intro (c1) ?_ ?_ ?_
 ·decide
 ·simp only[tt,seval,PB]
 rintro r os ⟨⟨Fk,Fs,rfl⟩,rfl⟩ hos
 simp only[tt,seval,PB,av]
 refine dLoop.gh [] ?_
 refine dLoop0.intro (fun f' Lo p=>∃(e:Expr) (v:PS) (n:Nat) (Ek Es:List (List Nat)),cj L f lv n e v=some (x,s')/\v.a<=L.length/\Lo=[(9000,.str (PB L v)),(7,.str (av (e).row [Ek,Es])),(6,.str [.v (.int .i64 0),.v (.int .i64 0),.v (.bool false),.v (.int .i64 0),.v (.int .i64 0),.v (.string ByteArray.empty),.v (.string ByteArray.empty),.v (.string ByteArray.empty),.v (.slice none 0 0),.v (.slice none 0 0)])]/\p=some (Ek++Es)) (fun _ Lo _=>L.length-Jf Lo) [(9000,.str (PB L s1)),(7,.str (av ((Expr.mk k1 p1 n1 v1 q1 m1 ks1 ss1)).row [Fk,Fs])),(6,.str [.v (.int .i64 0),.v (.int .i64 0),.v (.bool false),.v (.int .i64 0),.v (.int .i64 0),.v (.string ByteArray.empty),.v (.string ByteArray.empty),.v (.string ByteArray.empty),.v (.slice none 0 0),.v (.slice none 0 0)])] (some (Fk++Fs)) ⟨by rw[am];exact ak rfl (ak rfl (ak rfl (ap _))),PoSub.refl _,?_⟩ ?_
 ·simp only[tt,seval]
  exact⟨(Expr.mk k1 p1 n1 v1 q1 m1 ks1 ss1),s1,L.length+1,Fk,Fs,h,ha1,rfl,rfl⟩
 ·rintro g' Lo p ⟨e,v,n,Ek,Es,hm,hv,rfl,rfl⟩
  obtain⟨k1,p1,n1,v1,q1,m1,ks1,ss1⟩:=e
  rw[am]
  simp only[tt,seval,av]
  refine cS (tZ L hL hT v (gk lv) hn ho hv) ?_ ?_<;>simp only[tt,seval,PB]
  cases n with
  |zero=>cases hm
  |succ n=>
  rw[cj] at hm
  have hop0:jd L v (gk lv)=dH L v lv:=rfl
  rw[hop0]
  by_cases hop:dH L v lv=0
  ·rw[if_pos hop] at hm
   injection hm with hm;injection hm with h1 h2;subst h1 h2
   have e0:decide (((dH L v lv:Nat):Int)=0)=true:=ax aa
   have e1:decide (¬dH L v lv=0)=false:=aB aa
   simp only[tt,seval,hop,po]
   refine⟨.ag (av ((Expr.mk k1 p1 n1 v1 q1 m1 ks1 ss1)).row [Ek,Es]),[PB L (v)],⟨⟨Ek,Es,by first|rfl|simp only[rW,av,Val.row,lc]⟩,rfl⟩,aq ?_⟩
   simp only[tt,seval,PB,am,av]
   first|done|exact mu
  ·rw[if_neg hop] at hm
   split at hm
   ·cases hm
   rename_i z u hz
   have hav:=dy (L:=L) (jm hop)
   have o3:=okf _ _ _ hz
   have o3a:v.a+1<=u.a:=o3.1
   have hu:=o3.2.1 hav
   have hlt:=(jm hop).2
   obtain⟨k2,p2,n2,v2,q2,m2,ks2,ss2⟩:=z
   have c2:=hg _ _ _ hz hav
   rw[am] at c2
   have cb:=fun Gk Gs=>Dm (dH L v lv) (Expr.mk k1 p1 n1 v1 q1 m1 ks1 ss1) (Expr.mk k2 p2 n2 v2 q2 m2 ks2 ss2) Ek Es Gk Gs
   simp only[am,av] at cb
   have e0:decide (((dH L v lv:Nat):Int)=0)=false:=aB aa
   have e0':(((dH L v lv:Nat):Int)=0)=False:=eq_false aa
   have e1:decide (¬dH L v lv=0)=true:=ax aa
   simp only[tt,seval,e0',e1,pn]
   refine dDrawn.intro [20] (.take 0 (.take 2 (.br 1 (.br 3 (.br 4 (.br 5 .done .nobr) .nobr) .nobr) (.br 3 (.take 1 (.br 4 (.br 5 .done .nobr) .nobr)) .nobr)))) ae ?_
   simp only[tt,seval]
   all_goals repeat' first|refine fI ?_ ?_|refine cv ?_ ?_
   all_goals
    refine CallQ.intro (c2) ?_ ?_ ?_
    ·decide
    ·simp only[tt,seval,PB]
     decide
    rintro r os ⟨⟨Gk,Gs,rfl⟩,rfl⟩ hos
    simp only[tt,seval,PB,av]
   all_goals repeat' first|refine fI ?_ ?_|refine cv ?_ ?_
   all_goals
    refine Dc ([]) (cb Gk Gs) ?_ ?_ ?_ ?_
    ·decide
    ·simp only[tt,seval]
    ·exact fun x=>by simp only[List.flatten_append,List.flatten_nil,List.count_append,List.append_nil];omega
    rintro r os ⟨rfl,Hk,Hs,rfl⟩ hos
    simp only[tt,seval,iS,am,av]
   all_goals
    refine⟨[(9000,.str (PB L u)),(7,.str (av ((iS (dH L v lv) (Expr.mk k1 p1 n1 v1 q1 m1 ks1 ss1) (Expr.mk k2 p2 n2 v2 q2 m2 ks2 ss2))).row [Hk,Hs])),(6,.str [.v (.int .i64 0),.v (.int .i64 0),.v (.bool false),.v (.int .i64 0),.v (.int .i64 0),.v (.string ByteArray.empty),.v (.string ByteArray.empty),.v (.string ByteArray.empty),.v (.slice none 0 0),.v (.slice none 0 0)])],some (Hk++Hs),by simp only[pq,PB,iS,zVal,z0,am,List.flatMap_nil,List.flatMap_cons,List.append_nil,List.length_nil,List.length_cons,av,lc];exact ak rfl (ak rfl (ak rfl (ap _))),PoSub.refl _,⟨_,u,n,Hk,Hs,hm,hu,rfl,rfl⟩,?_⟩
    show L.length-((u.a:Int)).toNat<L.length-((v.a:Int)).toNat
    omega
theorem K3:gk 1=[1]:=rfl
theorem K4:gk 2=[2]:=rfl
theorem K5:gk 4=[3,4,5,6,7,8]:=rfl
theorem K6:gk 5=[9]:=rfl
theorem K9:gk 6=[10,11]:=rfl
theorem Kb:gk 7=[12,13,14]:=rfl
set_option maxHeartbeats 1000000 in
theorem Dn (L:List Tok) (hL:L.length<=1048576) (hT:∀t∈L,t.text.size<=1048576) {f:Nat->PM Expr} {q:PM Query} (ok:OkM (L:=L) (f 2)) (hg:ja L 207 (f 2)):ja L 124 (stepE L f q 1):=by
 intro s x s' h ha
 have h:(match f 2 s with|none=>none|some (e,s1)=>cj L (f 2) 1 (L.length+1) e s1)=some (x,s'):=h
 have c1:=gS L hL hT ok 207 hg 1 ah ah s x s' h ha
 obtain⟨k1,p1,n1,v1,q1,m1,ks1,ss1⟩:=x
 rw[am] at c1
 simp only[K3] at c1
 refine ai ac true Tryz.func124 rfl ae ?_
 simp only[Tryz.f124,tt,seval]
 refine gQ [6] ?_
 simp only[tt,seval,PB]
 refine fun G=>?_
 refine Call1.intro (c1) ?_ ?_ ?_
 ·decide
 ·simp only[tt,seval,PB,mb]
 rintro r os ⟨⟨Fk,Fs,rfl⟩,rfl⟩ hos
 simp only[tt,seval,PB,mb,av]
 refine⟨.ag (av ((Expr.mk k1 p1 n1 v1 q1 m1 ks1 ss1)).row [Fk,Fs]),[PB L (s')],⟨⟨Fk,Fs,by first|rfl|simp only[rW,av,Val.row,lc]⟩,rfl⟩,aq ?_⟩
 simp only[tt,seval,PB,am,av]
 first|done|exact mu
set_option maxHeartbeats 1000000 in
theorem Bc (L:List Tok) (hL:L.length<=1048576) (hT:∀t∈L,t.text.size<=1048576) {f:Nat->PM Expr} {q:PM Query} (ok:OkM (L:=L) (f 3)) (hg:ja L 248 (f 3)):ja L 207 (stepE L f q 2):=by
 intro s x s' h ha
 have h:(match f 3 s with|none=>none|some (e,s1)=>cj L (f 3) 2 (L.length+1) e s1)=some (x,s'):=h
 have c1:=gS L hL hT ok 248 hg 2 ah ah s x s' h ha
 obtain⟨k1,p1,n1,v1,q1,m1,ks1,ss1⟩:=x
 rw[am] at c1
 simp only[K4] at c1
 refine ai ac true Tryz.func207 rfl ae ?_
 simp only[Tryz.f207,tt,seval]
 refine gQ [6] ?_
 simp only[tt,seval,PB]
 refine fun G=>?_
 refine Call1.intro (c1) ?_ ?_ ?_
 ·decide
 ·simp only[tt,seval,PB,mb]
 rintro r os ⟨⟨Fk,Fs,rfl⟩,rfl⟩ hos
 simp only[tt,seval,PB,mb,av]
 refine⟨.ag (av ((Expr.mk k1 p1 n1 v1 q1 m1 ks1 ss1)).row [Fk,Fs]),[PB L (s')],⟨⟨Fk,Fs,by first|rfl|simp only[rW,av,Val.row,lc]⟩,rfl⟩,aq ?_⟩
 simp only[tt,seval,PB,am,av]
 first|done|exact mu
set_option maxHeartbeats 1000000 in
theorem Bd (L:List Tok) (hL:L.length<=1048576) (hT:∀t∈L,t.text.size<=1048576) {f:Nat->PM Expr} {q:PM Query} (ok:OkM (L:=L) (f 6)) (hg:ja L 307 (f 6)):ja L 294 (stepE L f q 5):=by
 intro s x s' h ha
 have h:(match f 6 s with|none=>none|some (e,s1)=>cj L (f 6) 5 (L.length+1) e s1)=some (x,s'):=h
 have c1:=gS L hL hT ok 307 hg 5 ah ah s x s' h ha
 obtain⟨k1,p1,n1,v1,q1,m1,ks1,ss1⟩:=x
 rw[am] at c1
 simp only[K6] at c1
 refine ai ac true Tryz.func294 rfl ae ?_
 simp only[Tryz.f294,tt,seval]
 refine gQ [6] ?_
 simp only[tt,seval,PB]
 refine fun G=>?_
 refine Call1.intro (c1) ?_ ?_ ?_
 ·decide
 ·simp only[tt,seval,PB,mb]
 rintro r os ⟨⟨Fk,Fs,rfl⟩,rfl⟩ hos
 simp only[tt,seval,PB,mb,av]
 refine⟨.ag (av ((Expr.mk k1 p1 n1 v1 q1 m1 ks1 ss1)).row [Fk,Fs]),[PB L (s')],⟨⟨Fk,Fs,by first|rfl|simp only[rW,av,Val.row,lc]⟩,rfl⟩,aq ?_⟩
 simp only[tt,seval,PB,am,av]
 first|done|exact mu
set_option maxHeartbeats 1000000 in
theorem Be (L:List Tok) (hL:L.length<=1048576) (hT:∀t∈L,t.text.size<=1048576) {f:Nat->PM Expr} {q:PM Query} (ok:OkM (L:=L) (f 7)) (hg:ja L 313 (f 7)):ja L 307 (stepE L f q 6):=by
 intro s x s' h ha
 have h:(match f 7 s with|none=>none|some (e,s1)=>cj L (f 7) 6 (L.length+1) e s1)=some (x,s'):=h
 have c1:=gS L hL hT ok 313 hg 6 ah ah s x s' h ha
 obtain⟨k1,p1,n1,v1,q1,m1,ks1,ss1⟩:=x
 rw[am] at c1
 simp only[K9] at c1
 refine ai ac true Tryz.func307 rfl ae ?_
 simp only[Tryz.f307,tt,seval]
 refine gQ [6] ?_
 simp only[tt,seval,PB]
 refine fun G=>?_
 refine Call1.intro (c1) ?_ ?_ ?_
 ·decide
 ·simp only[tt,seval,PB,mb]
 rintro r os ⟨⟨Fk,Fs,rfl⟩,rfl⟩ hos
 simp only[tt,seval,PB,mb,av]
 refine⟨.ag (av ((Expr.mk k1 p1 n1 v1 q1 m1 ks1 ss1)).row [Fk,Fs]),[PB L (s')],⟨⟨Fk,Fs,by first|rfl|simp only[rW,av,Val.row,lc]⟩,rfl⟩,aq ?_⟩
 simp only[tt,seval,PB,am,av]
 first|done|exact mu
set_option maxHeartbeats 1000000 in
theorem yF (L:List Tok) (hL:L.length<=1048576) (hT:∀t∈L,t.text.size<=1048576) {f:Nat->PM Expr} {q:PM Query} (ok:OkM (L:=L) (f 8)) (hg:ja L 315 (f 8)):ja L 313 (stepE L f q 7):=by
 intro s x s' h ha
 have h:(match f 8 s with|none=>none|some (e,s1)=>cj L (f 8) 7 (L.length+1) e s1)=some (x,s'):=h
 have c1:=gS L hL hT ok 315 hg 7 ah ah s x s' h ha
 obtain⟨k1,p1,n1,v1,q1,m1,ks1,ss1⟩:=x
 rw[am] at c1
 simp only[Kb] at c1
 refine ai ac true Tryz.func313 rfl ae ?_
 simp only[Tryz.f313,tt,seval]
 refine gQ [6] ?_
 simp only[tt,seval,PB]
 refine fun G=>?_
 refine Call1.intro (c1) ?_ ?_ ?_
 ·decide
 ·simp only[tt,seval,PB,mb]
 rintro r os ⟨⟨Fk,Fs,rfl⟩,rfl⟩ hos
 simp only[tt,seval,PB,mb,av]
 refine⟨.ag (av ((Expr.mk k1 p1 n1 v1 q1 m1 ks1 ss1)).row [Fk,Fs]),[PB L (s')],⟨⟨Fk,Fs,by first|rfl|simp only[rW,av,Val.row,lc]⟩,rfl⟩,aq ?_⟩
 simp only[tt,seval,PB,am,av]
 first|done|exact mu
set_option maxHeartbeats 1000000 in
theorem Bf (L:List Tok) (hL:L.length<=1048576) (hT:∀t∈L,t.text.size<=1048576) {f:Nat->PM Expr} {q:PM Query} (hs:ja L 248 (f 3)) (hg:ja L 276 (f 4)):ja L 248 (stepE L f q 3):=by
 intro s x s' h ha
 have h:(if aA L s 15=true then (match f 3 (adv s) with|none=>none|some (e,s1)=>some (xL 15 e,s1)) else f 4 s)=some (x,s'):=h
 refine ai ac true Tryz.func248 rfl ae ?_
 simp only[Tryz.f248,tt,seval]
 refine cS (bD L hL hT s 15 ⟨#[78,79,84]⟩ ae ha) ?_ ?_<;>simp only[tt,seval,PB]
 cases c:aA L s 15 with
 |true=>
  rw[if_pos c] at h
  split at h
  ·cases h
  rename_i e s1 he
  injection h with h;injection h with h1 h2;subst h1 h2
  obtain⟨k1,p1,n1,v1,q1,m1,ks1,ss1⟩:=e
  have c1:=hs _ _ _ he (dy (aH c))
  rw[am] at c1
  simp only[tt,seval,pn]
  refine CallQ.intro (c1) ?_ ?_ ?_
  ·decide
  ·simp only[tt,seval,PB]
  rintro r os ⟨⟨Fk,Fs,rfl⟩,rfl⟩ hos
  simp only[tt,seval,PB,av]
  refine fun G=>?_
  refine⟨.ag (av (xL 15 (Expr.mk k1 p1 n1 v1 q1 m1 ks1 ss1)).row [G::(Fk++Fs),[]]),[PB L s1],⟨⟨_,_,rfl⟩,rfl⟩,aq ?_⟩
  simp only[tt,seval,pq,PB,xL,zVal,z0,am,av]
  first|done|exact mu
 |false=>
  rw[if_neg (by rw[c];simp)] at h
  obtain⟨k1,p1,n1,v1,q1,m1,ks1,ss1⟩:=x
  have c1:=hg _ _ _ h ha
  rw[am] at c1
  simp only[tt,seval,po]
  refine CallQ.intro (c1) ?_ ?_ ?_
  ·decide
  ·simp only[tt,seval,PB]
  rintro r os ⟨⟨Fk,Fs,rfl⟩,rfl⟩ hos
  simp only[tt,seval,PB,av]
  refine⟨.ag (av ((Expr.mk k1 p1 n1 v1 q1 m1 ks1 ss1)).row [Fk,Fs]),[PB L (s')],⟨⟨Fk,Fs,by first|rfl|simp only[rW,av,Val.row,lc]⟩,rfl⟩,aq ?_⟩
  simp only[tt,seval,PB,am,av]
  first|done|exact mu
set_option maxHeartbeats 1000000 in
theorem Bg (L:List Tok) (hL:L.length<=1048576) (hT:∀t∈L,t.text.size<=1048576) {f:Nat->PM Expr} {q:PM Query} (hs:ja L 315 (f 8)) (hg:ja L 317 (f 9)):ja L 315 (stepE L f q 8):=by
 intro s x s' h ha
 have h:(if cr L s 45=true then (match f 8 (adv s) with|none=>none|some (e,s1)=>some (xL 16 e,s1)) else f 9 s)=some (x,s'):=h
 refine ai ac true Tryz.func315 rfl ae ?_
 simp only[Tryz.f315,tt,seval]
 refine cS (du L hL hT s 45 ha) ?_ ?_<;>simp only[tt,seval,PB]
 cases c:cr L s 45 with
 |true=>
  rw[if_pos c] at h
  split at h
  ·cases h
  rename_i e s1 he
  injection h with h;injection h with h1 h2;subst h1 h2
  obtain⟨k1,p1,n1,v1,q1,m1,ks1,ss1⟩:=e
  have c1:=hs _ _ _ he (dy (bt c))
  rw[am] at c1
  simp only[tt,seval,pn]
  refine CallQ.intro (c1) ?_ ?_ ?_
  ·decide
  ·simp only[tt,seval,PB]
  rintro r os ⟨⟨Fk,Fs,rfl⟩,rfl⟩ hos
  simp only[tt,seval,PB,av]
  refine fun G=>?_
  refine⟨.ag (av (xL 16 (Expr.mk k1 p1 n1 v1 q1 m1 ks1 ss1)).row [G::(Fk++Fs),[]]),[PB L s1],⟨⟨_,_,rfl⟩,rfl⟩,aq ?_⟩
  simp only[tt,seval,pq,PB,xL,zVal,z0,am,av]
  first|done|exact mu
 |false=>
  rw[if_neg (by rw[c];simp)] at h
  obtain⟨k1,p1,n1,v1,q1,m1,ks1,ss1⟩:=x
  have c1:=hg _ _ _ h ha
  rw[am] at c1
  simp only[tt,seval,po]
  refine CallQ.intro (c1) ?_ ?_ ?_
  ·decide
  ·simp only[tt,seval,PB]
  rintro r os ⟨⟨Fk,Fs,rfl⟩,rfl⟩ hos
  simp only[tt,seval,PB,av]
  refine⟨.ag (av ((Expr.mk k1 p1 n1 v1 q1 m1 ks1 ss1)).row [Fk,Fs]),[PB L (s')],⟨⟨Fk,Fs,by first|rfl|simp only[rW,av,Val.row,lc]⟩,rfl⟩,aq ?_⟩
  simp only[tt,seval,PB,am,av]
  first|done|exact mu
def IR (L:List Tok) (fn:FuncId) (m:PM Query):Prop:=∀s e s',m s=some (e,s')->s.a<=L.length->Cl Tryz.prog fn [.c (.p 9000 0)] [PB L s] fun r os=>(∃Fi Ff Fw Fo,r = .ag (av (e).row [Fi,Ff,Fw,Fo]))/\os=[PB L s']
theorem rV (v:Val):Cl Tryz.prog 318 [.ag (aw v.row)] [] fun r _=>r = .ag (av (eK v).row [[],[]]):=by
 refine ai ac false Tryz.func318 rfl ae ?_
 simp only[Tryz.f318,tt,seval]
 simp only[tt,seval,Val.row]
 refine⟨.ag (av (eK v).row [[],[]]),[],rfl,aq ?_⟩
 simp only[tt,seval,pq,eK,z0,am,av]
set_option maxHeartbeats 2000000 in
theorem Bh (L:List Tok) (hL:L.length<=1048576) (hT:∀t∈L,t.text.size<=1048576) {f:Nat->PM Expr} (ok:OkM (L:=L) (f 1)) (hg:ja L 124 (f 1)) (s:PS) (x:List Expr) (s':PS) (h:mM L f s=some (x,s')) (ha:s.a<=L.length):Cl Tryz.prog 223 [.c (.p 9000 0)] [PB L s] fun r os=>(x.length<=1048580/\∃F,r = .c (.ow 46 x.length (x.flatMap Expr.row) (some F)))/\os=[PB L s']:=by
 unfold mM at h
 split at h
 ·cases h
 rename_i e s1 he
 have ha1:=(ok _ _ _ he).2.1 ha
 have c1:=hg _ _ _ he ha
 obtain⟨k1,p1,n1,v1,q1,m1,ks1,ss1⟩:=e
 rw[am] at c1
 refine ai ac true Tryz.func223 rfl ae ?_
 simp only[Tryz.f223,tt,seval]
 refine CallQ.intro (c1) ?_ ?_ ?_
 ·decide
 ·simp only[tt,seval,PB]
 rintro r os ⟨⟨Fk,Fs,rfl⟩,rfl⟩ hos
 simp only[tt,seval,PB,av]
 refine dLoop.gh [.ren 6 13] ⟨ah,ah,?_⟩
 refine dLoop0.intro (fun f' Lo p=>∃(l:List Expr) (v:PS) (n:Nat) (Fl Pl:List (List Nat)),f' 3 = .c (.s 13 l.length)/\hM L (f 1) n l v=some (x,s')/\v.a<=L.length/\l.length<=v.a+1/\Sb Fl.flatten Pl.flatten/\Lo=[(9000,.str (PB L v)),(13,.arr 46 (l).length ((l).flatMap Expr.row) (some (Fl)))]/\p=some Pl) (fun _ Lo _=>L.length-Jf Lo) [(9000,.str (PB L s1)),(13,.arr 46 ([(Expr.mk k1 p1 n1 v1 q1 m1 ks1 ss1)]).length (([(Expr.mk k1 p1 n1 v1 q1 m1 ks1 ss1)]).flatMap Expr.row) (some (Fk++Fs)))] (some (Fk++Fs)) ⟨by simp only[PB,am,List.flatMap_nil,List.flatMap_cons,List.append_nil,List.length_nil,List.length_cons];exact ak rfl (ak rfl (ap _)),PoSub.refl _,?_⟩ ?_
 ·simp only[tt,seval]
  exact⟨[(Expr.mk k1 p1 n1 v1 q1 m1 ks1 ss1)],s1,L.length+1,Fk++Fs,Fk++Fs,rfl,h,ha1,by simp,Sb.refl _,rfl,rfl⟩
 ·rintro g' Lo p ⟨l,v,n,Fl,Pl,h3,hm,hv,hml,hsb,rfl,rfl⟩
  simp only[tt,seval] at h3
  simp only[tt,seval]
  refine cS (du L hL hT v 44 hv) ?_ ?_<;>simp only[tt,seval,PB,h3]
  cases n with
  |zero=>cases hm
  |succ n=>
  rw[hM] at hm
  cases c44:cr L v 44 with
  |true=>
   rw[if_pos c44] at hm
   split at hm
   ·cases hm
   rename_i z u hz
   have hav:=dy (L:=L) (bt c44)
   have o3:=ok _ _ _ hz
   have o3a:v.a+1<=u.a:=o3.1
   have hu:=o3.2.1 hav
   have hlt:=(bt c44).2
   obtain⟨k2,p2,n2,v2,q2,m2,ks2,ss2⟩:=z
   have c2:=hg _ _ _ hz hav
   rw[am] at c2
   simp only[tt,seval,pn]
   refine CallQ.intro (c2) ?_ ?_ ?_
   ·decide
   ·simp only[tt,seval,PB]
   rintro r os ⟨⟨Gk,Gs,rfl⟩,rfl⟩ hos
   simp only[tt,seval,PB,av]
   refine qA ?_
   refine⟨[(9000,.str (PB L u)),(13,.arr 46 ((l++[(Expr.mk k2 p2 n2 v2 q2 m2 ks2 ss2)])).length (((l++[(Expr.mk k2 p2 n2 v2 q2 m2 ks2 ss2)])).flatMap Expr.row) (some (Fl++(Gk++Gs))))],some (Pl++(Gk++Gs)),by simp only[PB,am,List.flatMap_nil,List.flatMap_cons,List.append_nil,List.length_nil,List.length_cons,List.flatMap_append,aD];exact ak rfl (ak rfl (ap _)),PoSub.refl _,⟨l++[(Expr.mk k2 p2 n2 v2 q2 m2 ks2 ss2)],u,n,_,_,by simp,hm,hu,by simp;omega,by simp only[List.flatten_append];exact hsb.append (Sb.refl _),rfl,rfl⟩,?_⟩
   show L.length-((u.a:Int)).toNat<L.length-((v.a:Int)).toNat
   omega
  |false=>
   rw[if_neg (by rw[c44];simp)] at hm
   injection hm with hm;injection hm with e1 e2;subst e1 e2
   simp only[tt,seval,po]
   refine⟨.c (.ow 46 l.length (l.flatMap Expr.row) (some Fl)),[PB L v],⟨⟨aa,Fl,rfl⟩,rfl⟩,aq ?_⟩
   simp only[tt,seval,PB]
   exact hsb
set_option maxHeartbeats 4000000 in
theorem Do (L:List Tok) (hL:L.length<=1048576) (hT:∀t∈L,t.text.size<=1048576) {f:Nat->PM Expr} {q:PM Query} (ok:∀lv,OkM (L:=L) (f lv)) (okq:OkM (L:=L) q) (hor:ja L 124 (f 1)) (hq:IR L 42 q) (e:Expr) (not:Bool) (Ek Es:List (List Nat)) (s:PS) (x:Expr) (s':PS) (h:vN L f q e not s=some (x,s')) (ha:s.a<=L.length):ClT Tryz.prog 295 [.c (.p 9000 0),.ag (av e.row [Ek,Es]),vb not] [PB L s] (Ek++Es).flatten fun r os=>(∃Hk Hs,r = .ag (av x.row [Hk,Hs]))/\os=[PB L s']:=by
 obtain⟨k1,p1,n1,v1,q1,m1,ks1,ss1⟩:=e
 unfold vN at h
 simp only at h
 simp only[am,av]
 refine rN ac (some (Ek++Es)) _ (fun ps h=>by injection h with h;subst h;first|rfl|simp) Tryz.func295 rfl ae ?_
 simp only[Tryz.f295,tt,seval]
 refine cS (fJ L hL hT s 40 ha) ?_ ?_<;>simp only[tt,seval,PB]
 have o1:Ok L s (must (cr L s 40) s):=Ok.must fun h=>bt h
 have ha1:=o1.2.1 ha
 generalize must (cr L s 40) s=u at *
 refine cS (wX L hL hT u 1 ⟨#[83,69,76,69,67,84]⟩ ae ha1) ?_ ?_<;>simp only[tt,seval,PB]
 cases c1:aA L u 1 with
 |true=>
  rw[if_pos c1] at h
  split at h
  ·cases h
  rename_i y t hy
  injection h with h;injection h with h1 h2;subst h1 h2
  have ht:=(okq _ _ _ hy).2.1 ha1
  obtain⟨d,its,frs,whs,ods,lim⟩:=y
  have cq:=hq _ _ _ hy ha1
  rw[aG] at cq
  simp only[tt,seval]
  refine CallQ.intro (cq) ?_ ?_ ?_
  ·decide
  ·simp only[tt,seval,PB]
  rintro r os ⟨⟨Fi,Ff,Fw,Fo,rfl⟩,rfl⟩ hos
  simp only[tt,seval,PB,av]
  refine cS (fJ L hL hT t 41 ht) ?_ ?_<;>simp only[tt,seval,PB]
  refine fun G0=>?_
  refine fun G1=>?_
  refine⟨.ag (av (cG 8 not [(Expr.mk k1 p1 n1 v1 q1 m1 ks1 ss1)] [(Query.mk d its frs whs ods lim)]).row [G0::(Ek++Es),G1::(Fi++(Ff++(Fw++Fo)))]),[PB L (must (cr L t 41) t)],⟨⟨_,_,rfl⟩,rfl⟩,aq ?_⟩
  simp only[tt,seval,pq,PB,cG,zVal,z0,am,aG,av]
  first|done|exact Kq
 |false=>
  rw[if_neg (by rw[c1];simp)] at h
  split at h
  ·cases h
  rename_i l t hl
  injection h with h;injection h with h1 h2;subst h1 h2
  have ht:=(OkM.ors ok _ _ _ hl).2.1 ha1
  have cl:=Bh L hL hT (ok 1) hor _ _ _ hl ha1
  simp only[tt,seval]
  refine dDrawn.intro [24] (.take 0 (.take 2 (.br 1 (.br 3 (.br 4 (.take 5 (.br 6 .done .nobr)) .nobr) .nobr) (.br 3 (.take 1 (.br 4 (.take 5 (.br 6 .done .nobr)) .nobr)) .nobr)))) ae ?_
  simp only[tt,seval]
  all_goals repeat' first|refine fI ?_ ?_|refine cv ?_ ?_
  all_goals
   refine CallQ.intro (cl) ?_ ?_ ?_
   ·decide
   ·simp only[tt,seval,PB]
    decide
   rintro r os ⟨⟨hlen,Fl,rfl⟩,rfl⟩ hos
   simp only[tt,seval,PB]
  all_goals repeat' first|refine rT ?_ ?_|refine j1 ?_ ?_|refine j2 ?_ ?_
  all_goals
   refine⟨ae,bV aJ l,⟨by simp only[maxLen];omega,aa⟩,?_⟩
  all_goals
   refine cS (fJ L hL hT t 41 ht) ?_ ?_<;>simp only[tt,seval,PB]
   refine fun G0=>?_
   refine⟨.ag (av (cG 7 not ((Expr.mk k1 p1 n1 v1 q1 m1 ks1 ss1)::l) []).row [G0::(Ek++Es++Fl),[]]),[PB L (must (cr L t 41) t)],⟨⟨_,_,rfl⟩,rfl⟩,aq ?_⟩
   simp only[tt,seval,pq,PB,cG,zVal,z0,am,av]
   first|done|exact mu
theorem wY (k:Int):Cl Tryz.prog 319 [vi k] [] fun r _=>r = .ag (aw (Val.mk 1 k z0).row):=by
 refine ai ac false Tryz.func319 rfl ae ?_
 simp only[Tryz.f319,tt,seval]
 refine⟨.ag (aw (Val.mk 1 k z0).row),[],rfl,aq ?_⟩
 simp only[tt,seval,Val.row,z0,pq]
theorem uY (s:ByteArray):Cl Tryz.prog 320 [vs s] [] fun r _=>r = .ag (aw (Val.mk 2 0 s).row):=by
 refine ai ac false Tryz.func320 rfl ae ?_
 simp only[Tryz.f320,tt,seval]
 refine⟨.ag (aw (Val.mk 2 0 s).row),[],rfl,aq ?_⟩
 simp only[tt,seval,Val.row]
theorem uZ:Cl Tryz.prog 321 [vb true] [] fun r _=>r = .ag (aw (Val.mk 3 1 z0).row):=by
 refine ai ac false Tryz.func321 rfl ae ?_
 simp only[Tryz.f321,tt,seval]
 refine⟨.ag (aw (Val.mk 3 1 z0).row),[],rfl,aq ?_⟩
 simp only[tt,seval,Val.row,z0,pq]
theorem v8:Cl Tryz.prog 321 [vb false] [] fun r _=>r = .ag (aw (Val.mk 3 0 z0).row):=by
 refine ai ac false Tryz.func321 rfl ae ?_
 simp only[Tryz.f321,tt,seval]
 refine⟨.ag (aw (Val.mk 3 0 z0).row),[],rfl,aq ?_⟩
 simp only[tt,seval,Val.row,z0,pq]
set_option maxHeartbeats 4000000 in
theorem yG (L:List Tok) (hL:L.length<=1048576) (hT:∀t∈L,t.text.size<=1048576) {f:Nat->PM Expr} {q:PM Query} (ok1:OkM (L:=L) (f 1)) (okq:OkM (L:=L) q) (hf:ja L 124 (f 1)) (hq:IR L 42 q):ja L 317 (ed L f q):=by
 intro s e s' h ha
 have hts:=rq hL hT s
 unfold ed at h
 simp only at h
 refine ai ac true Tryz.func317 rfl ae ?_
 simp only[Tryz.f317,tt,seval]
 refine cS (ke L hL hT s 3 ha) ?_ ?_<;>simp only[tt,seval,PB]
 cases c3:mv L s 3 with
 |true=>
  rw[if_pos c3] at h
  injection h with h;injection h with h1 h2;subst h1 h2
  simp only[tt,seval]
  refine cS (jF L hL hT s ha) ?_ ?_<;>simp only[tt,seval,PB]
  have hn:mNum L s=(jB (bP L s),adv s):=by unfold mNum;rw[rt c3]
  rw[hn]
  refine cZ (wY (jB (bP L s))) ?_ ?_<;>simp only[tt,seval,Val.row]
  have cl:=rV ⟨1,jB (bP L s),z0⟩
  refine cZ (cl) ?_ ?_<;>simp only[tt,seval,pq,eK,z0,am,av,Val.row]
  refine⟨.ag (av (eK ⟨1,jB (bP L s),z0⟩).row [[],[]]),[PB L (adv s)],⟨⟨[],[],rfl⟩,rfl⟩,aq ?_⟩
  simp only[tt,seval,PB,eK,z0,am,av]
  first|done|exact y5
 |false=>
 rw[if_neg (by rw[c3];simp)] at h
 simp only[tt,seval]
 refine cS (ke L hL hT s 4 ha) ?_ ?_<;>simp only[tt,seval,PB]
 cases c4:mv L s 4 with
 |true=>
  rw[if_pos c4] at h
  injection h with h;injection h with h1 h2;subst h1 h2
  simp only[tt,seval]
  refine cS (eO L hL hT s 4 ha) ?_ ?_<;>simp only[tt,seval,PB]
  rw[rt c4]
  refine cZ (uY (bP L s)) ?_ ?_<;>simp only[tt,seval,Val.row]
  have cl:=rV ⟨2,0,bP L s⟩
  refine cZ (cl) ?_ ?_<;>simp only[tt,seval,pq,eK,z0,am,av,Val.row]
  refine⟨.ag (av (eK ⟨2,0,bP L s⟩).row [[],[]]),[PB L (adv s)],⟨⟨[],[],rfl⟩,rfl⟩,aq ?_⟩
  simp only[tt,seval,PB,eK,z0,am,av]
  first|done|exact y5
 |false=>
 rw[if_neg (by rw[c4];simp)] at h
 simp only[tt,seval]
 refine cS (bD L hL hT s 20 ⟨#[78,85,76,76]⟩ ae ha) ?_ ?_<;>simp only[tt,seval,PB]
 cases c20:aA L s 20 with
 |true=>
  rw[if_pos c20] at h
  injection h with h;injection h with h1 h2;subst h1 h2
  simp only[tt,seval,pn]
  have cl:=rV zVal
  refine cZ (cl) ?_ ?_<;>simp only[tt,seval,pq,eK,zVal,z0,am,av,Val.row]
  refine⟨.ag (av (eK zVal).row [[],[]]),[PB L (adv s)],⟨⟨[],[],rfl⟩,rfl⟩,aq ?_⟩
  simp only[tt,seval,PB,eK,zVal,z0,am,av]
  first|done|exact y5
 |false=>
 rw[if_neg (by rw[c20];simp)] at h
 simp only[tt,seval,po]
 refine cS (bD L hL hT s 21 ⟨#[84,82,85,69]⟩ ae ha) ?_ ?_<;>simp only[tt,seval,PB]
 cases c21:aA L s 21 with
 |true=>
  rw[if_pos c21] at h
  injection h with h;injection h with h1 h2;subst h1 h2
  simp only[tt,seval,pn]
  refine cZ (uZ) ?_ ?_<;>simp only[tt,seval,Val.row]
  have cl:=rV ⟨3,1,z0⟩
  refine cZ (cl) ?_ ?_<;>simp only[tt,seval,pq,eK,z0,am,av,Val.row]
  refine⟨.ag (av (eK ⟨3,1,z0⟩).row [[],[]]),[PB L (adv s)],⟨⟨[],[],rfl⟩,rfl⟩,aq ?_⟩
  simp only[tt,seval,PB,eK,z0,am,av]
  first|done|exact y5
 |false=>
 rw[if_neg (by rw[c21];simp)] at h
 simp only[tt,seval,po]
 refine cS (bD L hL hT s 22 ⟨#[70,65,76,83,69]⟩ ae ha) ?_ ?_<;>simp only[tt,seval,PB]
 cases c22:aA L s 22 with
 |true=>
  rw[if_pos c22] at h
  injection h with h;injection h with h1 h2;subst h1 h2
  simp only[tt,seval,pn]
  refine cZ (v8) ?_ ?_<;>simp only[tt,seval,Val.row]
  have cl:=rV ⟨3,0,z0⟩
  refine cZ (cl) ?_ ?_<;>simp only[tt,seval,pq,eK,z0,am,av,Val.row]
  refine⟨.ag (av (eK ⟨3,0,z0⟩).row [[],[]]),[PB L (adv s)],⟨⟨[],[],rfl⟩,rfl⟩,aq ?_⟩
  simp only[tt,seval,PB,eK,z0,am,av]
  first|done|exact y5
 |false=>
 rw[if_neg (by rw[c22];simp)] at h
 simp only[tt,seval,po]
 refine cS (ke L hL hT s 2 ha) ?_ ?_<;>simp only[tt,seval,PB]
 cases c2:mv L s 2 with
 |true=>
  rw[if_pos c2] at h
  simp only[tt,seval]
  refine cS (eO L hL hT s 2 ha) ?_ ?_<;>simp only[tt,seval,PB]
  rw[rt c2]
  simp only[seval]
  have ha1:=dy (L:=L) (lL c2)
  refine cS (du L hL hT (adv s) 46 ha1) ?_ ?_<;>simp only[tt,seval,PB]
  cases cd:cr L (adv s) 46 with
  |true=>
   rw[if_pos cd] at h
   injection h with h;injection h with h1 h2;subst h1 h2
   simp only[tt,seval,pn]
   refine cS (eO L hL hT (adv (adv s)) 2 (dy (bt cd))) ?_ ?_<;>simp only[tt,seval,PB]
   refine⟨.ag (av (qm (bP L s) (mText L 2 (adv (adv s))).1).row [[],[]]),[PB L ((mText L 2 (adv (adv s))).2)],⟨⟨[],[],rfl⟩,rfl⟩,aq ?_⟩
   simp only[tt,seval,pq,PB,qm,zVal,am,av]
   first|done|exact y5
  |false=>
   rw[if_neg (by rw[cd];simp)] at h
   injection h with h;injection h with h1 h2;subst h1 h2
   simp only[tt,seval,po]
   refine⟨.ag (av (qm z0 (bP L s)).row [[],[]]),[PB L (adv s)],⟨⟨[],[],rfl⟩,rfl⟩,aq ?_⟩
   simp only[tt,seval,pq,PB,qm,zVal,z0,am,av]
   first|done|exact y5
 |false=>
 rw[if_neg (by rw[c2];simp)] at h
 simp only[tt,seval]
 refine cS (du L hL hT s 40 ha) ?_ ?_<;>simp only[tt,seval,PB]
 cases cl:cr L s 40 with
 |true=>
  rw[if_pos cl] at h
  have ha1:=dy (L:=L) (bt cl)
  split at h
  ·cases h
  rename_i x t hx
  injection h with h;injection h with h1 h2;subst h1 h2
  have o2:=ok1 _ _ _ hx
  obtain⟨k1,p1,n1,v1,q1,m1,ks1,ss1⟩:=x
  have c:=hf _ _ _ hx ha1
  rw[am] at c
  simp only[tt,seval,pn]
  refine CallQ.intro (c) ?_ ?_ ?_
  ·decide
  ·simp only[tt,seval,PB]
  rintro r os ⟨⟨Fk,Fs,rfl⟩,rfl⟩ hos
  simp only[tt,seval,PB,av]
  refine cS (fJ L hL hT t 41 (o2.2.1 ha1)) ?_ ?_<;>simp only[tt,seval,PB]
  refine⟨.ag (av ((Expr.mk k1 p1 n1 v1 q1 m1 ks1 ss1)).row [Fk,Fs]),[PB L (must (cr L t 41) t)],⟨⟨Fk,Fs,by first|rfl|simp only[rW,av,Val.row,lc]⟩,rfl⟩,aq ?_⟩
  simp only[tt,seval,PB,am,av]
  first|done|exact mu
 |false=>
 rw[if_neg (by rw[cl];simp)] at h
 simp only[tt,seval,po]
 refine cS (bD L hL hT s 19 ⟨#[69,88,73,83,84,83]⟩ ae ha) ?_ ?_<;>simp only[tt,seval,PB]
 cases c19:aA L s 19 with
 |true=>
  rw[if_pos c19] at h
  simp only[tt,seval,pn]
  have ha1:=dy (L:=L) (aH c19)
  have o1:Ok L (adv s) (must (cr L (adv s) 40) (adv s)):=Ok.must fun h=>bt h
  refine cS (fJ L hL hT (adv s) 40 ha1) ?_ ?_<;>simp only[tt,seval,PB]
  split at h
  ·cases h
  rename_i x t hx
  injection h with h;injection h with h1 h2;subst h1 h2
  have o2:=okq _ _ _ hx
  obtain⟨d,its,frs,whs,ods,lim⟩:=x
  have c:=hq _ _ _ hx (o1.2.1 ha1)
  rw[aG] at c
  refine CallQ.intro (c) ?_ ?_ ?_
  ·decide
  ·simp only[tt,seval,PB]
  rintro r os ⟨⟨Fi,Ff,Fw,Fo,rfl⟩,rfl⟩ hos
  simp only[tt,seval,PB,av]
  refine cS (fJ L hL hT t 41 (o2.2.1 (o1.2.1 ha1))) ?_ ?_<;>simp only[tt,seval,PB]
  refine fun G0=>?_
  refine⟨.ag (av (cG 9 false [] [(Query.mk d its frs whs ods lim)]).row [[],G0::(Fi++(Ff++(Fw++Fo)))]),[PB L (must (cr L t 41) t)],⟨⟨_,_,rfl⟩,rfl⟩,aq ?_⟩
  simp only[tt,seval,pq,PB,cG,zVal,z0,am,aG,av]
  first|done|exact mu
 |false=>
  rw[if_neg (by rw[c19];simp)] at h
  injection h with h;injection h with h1 h2;subst h1 h2
  simp only[tt,seval,po,fl]
  refine⟨.ag (av (zExpr).row [[],[]]),[PB L (fl s)],⟨⟨[],[],rfl⟩,rfl⟩,aq ?_⟩
  simp only[tt,seval,fl,pq,PB,zExpr,zVal,z0,am,av]
  first|done|exact y5
end Go.Proofs.YtdmomaomffhidaaGreatDoor
