/-
  The program's parser, first half.
  Conditions: none.
-/
import Derived.Test.YteffjmaadkkmeaaGreatDoorRPC1
set_option linter.unusedVariables false
set_option linter.unusedSimpArgs false
set_option linter.unusedSectionVars false
set_option maxRecDepth 8000
namespace Go.Proofs.YteffjmaadkkmeaaGreatDoor
open Go Go.Dv
open Go.Vc (D cY d3 cN bk)
theorem qm (L:List Tok) (hL:L.length<=1048576) (hT:∀t∈L,t.text.size<=1048576) (s:PS) (k:Nat) (kind:Nat) (x:ByteArray) (hk:k<=100) (ha:s.a<=L.length):Cl Tryz.prog 165 [.c (.p 9000 0),vi k,vi kind,vs x] [PB L s] fun r os=>r=vb (ki L s k kind x)/\os=[PB L s]:=by
 obtain⟨a,b⟩:=s
 have ha:a<=L.length:=ha
 have hw:IntKind.i64.wrap ((a:Int)+k)=((a+k:Nat):Int):=ax (n:=(a:Int)+k) (by omega) (by omega)
 cases b with
 |true=>
  have e:ki L ⟨a,true⟩ k kind x=false:=rfl
  rw[e]
  refine ae ab false Tryz.func165 rfl (by kernel_rfl) ?_
  simp only[Tryz.f165,tt,seval]
  simp only[tt,seval,PB,hw]
  refine⟨_,[PB L ⟨a,true⟩],⟨rfl,rfl⟩,am ?_⟩
  simp only[tt,seval,PB]
 |false=>
  refine ae ab false Tryz.func165 rfl (by kernel_rfl) ?_
  simp only[Tryz.f165,tt,seval]
  simp only[tt,seval,PB,hw]
  refine fun _=>?_
  by_cases hlt:a+k<L.length
  ·have h1:decide (((a+k:Nat):Int)<(L.length:Int))=true:=ap (by omega)
   have hx:L[a+k]?=some L[a+k]:=ay hlt
   have e:ki L ⟨a,false⟩ k kind x=(decide (L[a+k].kind=kind)&&decide (L[a+k].text=x)):=by
    unfold ki iD
    simp only[Bool.false_eq_true,if_false,hx]
   have i0:((0:Int)<=((a+k:Nat):Int))=True:=eq_true (by omega)
   have iL:(((a+k:Nat):Int)<(L.length:Int))=True:=eq_true (by omega)
   have iT:(a+k<L.length)=True:=eq_true hlt
   rw[e]
   generalize L[a+k]=tk at *
   generalize a+k=j at *
   simp only[tt,seval,bi hx kh,i0,iL,Tok.row]
   cases hk1:decide (tk.kind=(kind:Int)) with
   |true=>
    simp only[tt,seval,bi hx kh,i0,iL,Tok.row]
    trace_state
    refine⟨_,[PB L ⟨a,false⟩],⟨rfl,rfl⟩,am ?_⟩
    simp only[tt,seval,PB]
   |false=>
    simp only[tt,seval]
    trace_state
    refine⟨_,[PB L ⟨a,false⟩],⟨rfl,rfl⟩,am ?_⟩
    simp only[tt,seval,PB]
  ·have h1:decide (((a+k:Nat):Int)<(L.length:Int))=false:=ao (by omega)
   have e:ki L ⟨a,false⟩ k kind x=false:=by
    unfold ki iD
    simp only[Bool.false_eq_true,if_false,List.getElem?_eq_none_iff.2 (show L.length<=a+k by omega)]
   rw[e]
   simp only[tt,seval,h1]
   refine⟨_,[PB L ⟨a,false⟩],⟨rfl,rfl⟩,am ?_⟩
   simp only[tt,seval,PB]
theorem jb (L:List Tok) (hL:L.length<=1048576) (hT:∀t∈L,t.text.size<=1048576) (s:PS) (k:Nat) (ha:s.a<=L.length):Cl Tryz.prog 164 [.c (.p 9000 0),vi k] [PB L s] fun r os=>r=vb (mN L s k)/\os=[PB L s]:=by
 obtain⟨a,b⟩:=s
 have ha:a<=L.length:=ha
 cases b with
 |true=>
  have e:mN L ⟨a,true⟩ k=false:=rfl
  rw[e]
  refine ae ab false Tryz.func164 rfl (by kernel_rfl) ?_
  simp only[Tryz.f164,tt,seval]
  refine dDrawn.intro [] (iK [0,2,4,6,8,10,12,14,16,18,20,22,24,26,28,30,32,34,36,38,40,42,44,46,48,50,52,54,56,58,60,62,64,66,68,70,72,74,76,78,80,82,84,87,88,90]) (by kernel_rfl) ?_
  simp only[tt,seval]
  simp only[tt,seval,PB]
  refine⟨_,[PB L ⟨a,true⟩],⟨rfl,rfl⟩,am ?_⟩
  simp only[tt,seval,PB]
 |false=>
  refine ae ab false Tryz.func164 rfl (by kernel_rfl) ?_
  simp only[Tryz.f164,tt,seval]
  refine dDrawn.intro [] (iK [0,2,4,6,8,10,12,14,16,18,20,22,24,26,28,30,32,34,36,38,40,42,44,46,48,50,52,54,56,58,60,62,64,66,68,70,72,74,76,78,80,82,84,87,88,90]) (by kernel_rfl) ?_
  simp only[tt,seval]
  simp only[tt,seval,PB]
  refine fun _=>?_
  by_cases hlt:a<L.length
  ·have h1:decide ((a:Int)<(L.length:Int))=true:=ap (by omega)
   have hx:L[a]?=some L[a]:=ay hlt
   have ht:=hT L[a] (aI hlt)
   have e:mN L ⟨a,false⟩ k=(decide (L[a].kind=k)&&aW L[a]):=by
    unfold mN iD
    simp only[Bool.false_eq_true,if_false,Nat.add_zero,hx]
   have i0:((0:Int)<=(a:Int))=True:=eq_true (by omega)
   have iL:((a:Int)<(L.length:Int))=True:=eq_true (by omega)
   have iT:(a<L.length)=True:=eq_true hlt
   rw[e]
   generalize L[a]=tk at *
   simp only[tt,seval,bi hx kh,i0,iL,Tok.row]
   cases hk1:decide (tk.kind=(k:Int)) with
   |true=>
    simp only[tt,seval,bi hx kh,i0,iL,Tok.row]
    refine cZ (bM tk ht) ?_ ?_<;>simp only[tt,seval,Tok.row]
    refine⟨_,[PB L ⟨a,false⟩],⟨rfl,rfl⟩,am ?_⟩
    simp only[tt,seval,PB]
   |false=>
    simp only[tt,seval]
    refine⟨_,[PB L ⟨a,false⟩],⟨rfl,rfl⟩,am ?_⟩
    simp only[tt,seval,PB]
  ·have h1:decide ((a:Int)<(L.length:Int))=false:=ao (by omega)
   have e:mN L ⟨a,false⟩ k=false:=by
    unfold mN iD
    simp only[Bool.false_eq_true,if_false,Nat.add_zero,List.getElem?_eq_none_iff.2 (show L.length<=a by omega)]
   rw[e]
   simp only[tt,seval,h1]
   refine⟨_,[PB L ⟨a,false⟩],⟨rfl,rfl⟩,am ?_⟩
   simp only[tt,seval,PB]
theorem qn (L:List Tok) (hL:L.length<=1048576) (hT:∀t∈L,t.text.size<=1048576) (s:PS) (k:Nat) (w:ByteArray) (hw:w=kw k) (ha:s.a<=L.length):Cl Tryz.prog 114 [.c (.p 9000 0),vs w] [PB L s] fun r os=>r=vb (au L s k)/\os=[PB L s]:=by
 subst hw
 rw[show au L s k=ki L s 0 1 (kw k) from rfl]
 refine ae ab false Tryz.func114 rfl (by kernel_rfl) ?_
 simp only[Tryz.f114,tt,seval]
 refine cS (qm L hL hT s 0 1 (kw k) (by omega) ha) ?_ ?_<;>simp only[tt,seval,PB]
 refine⟨_,[PB L s],⟨rfl,rfl⟩,am ?_⟩
 simp only[tt,seval,PB]
theorem yD (L:List Tok) (hL:L.length<=1048576) (hT:∀t∈L,t.text.size<=1048576) (s:PS) (c:UInt8) (ha:s.a<=L.length):Cl Tryz.prog 167 [.c (.p 9000 0),vs ⟨#[c]⟩] [PB L s] fun r os=>r=vb (b3 L s c)/\os=[PB L s]:=by
 rw[show b3 L s c=ki L s 0 5 ⟨#[c]⟩ from rfl]
 refine ae ab false Tryz.func167 rfl (by kernel_rfl) ?_
 simp only[Tryz.f167,tt,seval]
 refine cS (qm L hL hT s 0 5 ⟨#[c]⟩ (by omega) ha) ?_ ?_<;>simp only[tt,seval,PB]
 refine⟨_,[PB L s],⟨rfl,rfl⟩,am ?_⟩
 simp only[tt,seval,PB]
theorem ba (L:List Tok) (hL:L.length<=1048576) (hT:∀t∈L,t.text.size<=1048576) (s:PS) (k:Nat) (w:ByteArray) (hw:w=kw k) (ha:s.a<=L.length):Cl Tryz.prog 102 [.c (.p 9000 0),vs w] [PB L s] fun r os=>r=vb (au L s k)/\os=[PB L (tkIf (au L s k) s)]:=by
 refine ae ab false Tryz.func102 rfl (by kernel_rfl) ?_
 simp only[Tryz.f102,tt,seval]
 refine cS (qn L hL hT s k w hw ha) ?_ ?_<;>simp only[tt,seval,PB]
 cases c:au L s k with
 |true=>
  have hlt:=(aq c).2
  simp only[tt,seval]
  rw[ax (n:=(s.a:Int)+1) (by omega) (by omega)]
  refine⟨_,[PB L (adv s)],⟨rfl,rfl⟩,am ?_⟩
  simp only[tt,seval,PB,adv]
  omega
 |false=>
  simp only[tt,seval]
  refine⟨_,[PB L s],⟨rfl,rfl⟩,am ?_⟩
  simp only[tt,seval,PB]
theorem cm (L:List Tok) (hL:L.length<=1048576) (hT:∀t∈L,t.text.size<=1048576) (s:PS) (c:UInt8) (ha:s.a<=L.length):Cl Tryz.prog 104 [.c (.p 9000 0),vs ⟨#[c]⟩] [PB L s] fun r os=>r=vb (b3 L s c)/\os=[PB L (tkIf (b3 L s c) s)]:=by
 refine ae ab false Tryz.func104 rfl (by kernel_rfl) ?_
 simp only[Tryz.f104,tt,seval]
 refine cS (yD L hL hT s c ha) ?_ ?_<;>simp only[tt,seval,PB]
 cases c:b3 L s c with
 |true=>
  have hlt:=(aD c).2
  simp only[tt,seval]
  rw[ax (n:=(s.a:Int)+1) (by omega) (by omega)]
  refine⟨_,[PB L (adv s)],⟨rfl,rfl⟩,am ?_⟩
  simp only[tt,seval,PB,adv]
  omega
 |false=>
  simp only[tt,seval]
  refine⟨_,[PB L s],⟨rfl,rfl⟩,am ?_⟩
  simp only[tt,seval,PB]
theorem dg (L:List Tok) (hL:L.length<=1048576) (hT:∀t∈L,t.text.size<=1048576) (s:PS) (k:Nat) (w:ByteArray) (hw:w=kw k) (ha:s.a<=L.length):Cl Tryz.prog 101 [.c (.p 9000 0),vs w] [PB L s] fun r os=>r = .tu []/\os=[PB L (must (au L s k) s)]:=by
 refine ae ab false Tryz.func101 rfl (by kernel_rfl) ?_
 simp only[Tryz.f101,tt,seval]
 refine cS (ba L hL hT s k w hw ha) ?_ ?_<;>simp only[tt,seval,PB]
 cases c:au L s k with
 |true=>
  simp only[tt,seval,gy,sF]
  refine⟨_,[PB L (adv s)],⟨rfl,rfl⟩,am ?_⟩
  simp only[tt,seval,PB]
 |false=>
  simp only[tt,seval,fY,F8]
  refine⟨_,[PB L (fl s)],⟨rfl,rfl⟩,am ?_⟩
  simp only[tt,seval,PB,fl]
theorem d6 (L:List Tok) (hL:L.length<=1048576) (hT:∀t∈L,t.text.size<=1048576) (s:PS) (c:UInt8) (ha:s.a<=L.length):Cl Tryz.prog 171 [.c (.p 9000 0),vs ⟨#[c]⟩] [PB L s] fun r os=>r = .tu []/\os=[PB L (must (b3 L s c) s)]:=by
 refine ae ab false Tryz.func171 rfl (by kernel_rfl) ?_
 simp only[Tryz.f171,tt,seval]
 refine cS (cm L hL hT s c ha) ?_ ?_<;>simp only[tt,seval,PB]
 cases c:b3 L s c with
 |true=>
  simp only[tt,seval,gy,sF]
  refine⟨_,[PB L (adv s)],⟨rfl,rfl⟩,am ?_⟩
  simp only[tt,seval,PB]
 |false=>
  simp only[tt,seval,fY,F8]
  refine⟨_,[PB L (fl s)],⟨rfl,rfl⟩,am ?_⟩
  simp only[tt,seval,PB,fl]
theorem cn (L:List Tok) (hL:L.length<=1048576) (hT:∀t∈L,t.text.size<=1048576) (s:PS) (k:Nat) (ha:s.a<=L.length):Cl Tryz.prog 115 [.c (.p 9000 0),vi k] [PB L s] fun r os=>r=vs (mText L k s).1/\os=[PB L (mText L k s).2]:=by
 refine ae ab false Tryz.func115 rfl (by kernel_rfl) ?_
 simp only[Tryz.f115,tt,seval]
 refine cS (jb L hL hT s k ha) ?_ ?_<;>simp only[tt,seval,PB]
 cases c:mN L s k with
 |true=>
  obtain⟨hb,hlt⟩:=gu c
  rw[jz c]
  simp only[tt,seval]
  rw[ax (n:=(s.a:Int)+1) (by omega) (by omega)]
  refine dDrawn.intro [] (iK [0,2,4,6,8,10,12,14,16,18,20,22,24]) (by kernel_rfl) ?_
  simp only[tt,seval]
  have e1:IntKind.i64.wrap ((s.a:Int)+1-1)=s.a:=by rw[ax (n:=(s.a:Int)+1-1) (by omega) (by omega)];omega
  have hx:L[s.a]?=some L[s.a]:=ay hlt
  have e2:bI L s=L[s.a].text:=by
   unfold bI iD
   rw[hb]
   simp only[Bool.false_eq_true,if_false,Nat.add_zero,hx]
  have i0:((0:Int)<=(s.a:Int))=True:=eq_true (by omega)
  have iL:((s.a:Int)<(L.length:Int))=True:=eq_true (by omega)
  have iT:(s.a<L.length)=True:=eq_true hlt
  rw[e2]
  generalize L[s.a]=tk at *
  simp only[tt,seval,e1,bi hx kh,i0,iL,Tok.row]
  refine⟨_,[PB L (adv s)],⟨rfl,rfl⟩,am ?_⟩
  simp only[tt,seval,PB,adv]
  omega
 |false=>
  have e:mText L k s=(⟨#[]⟩,fl s):=by rw[mText,if_neg (by rw[c];simp)]
  rw[e]
  simp only[tt,seval]
  refine⟨vs ⟨#[]⟩,[PB L (fl s)],⟨rfl,rfl⟩,am ?_⟩
  simp only[tt,seval,PB,fl]
theorem iM (L:List Tok) (hL:L.length<=1048576) (hT:∀t∈L,t.text.size<=1048576) (s:PS) (ha:s.a<=L.length):Cl Tryz.prog 108 [.c (.p 9000 0)] [PB L s] fun r os=>r=vi (mNum L s).1/\os=[PB L (mNum L s).2]:=by
 have hsz:(mText L 3 s).1.size<=1048576:=by
  unfold mText
  split
  ·exact jy hL hT s
  ·exact Nat.zero_le _
 have e:mNum L s=(ic (mText L 3 s).1,(mText L 3 s).2):=rfl
 rw[e]
 refine ae ab false Tryz.func108 rfl (by kernel_rfl) ?_
 simp only[Tryz.f108,tt,seval]
 refine cS (cn L hL hT s 3 ha) ?_ ?_<;>simp only[tt,seval,PB]
 generalize (mText L 3 s).1=x at *
 refine cZ (rk x hsz) ?_ ?_<;>simp only[tt,seval,lx]
 refine⟨_,[PB L (mText L 3 s).2],⟨rfl,rfl⟩,am ?_⟩
 simp only[tt,seval,PB]
theorem DQ (L:List Tok) (hL:L.length<=1048576) (hT:∀t∈L,t.text.size<=1048576) (s:PS) (ha:s.a<=L.length):Cl Tryz.prog 43 [.c (.p 9000 0)] [PB L s] fun r os=>r=vi (kn L s)/\os=[PB L s]:=by
 refine ae ab false Tryz.func43 rfl (by kernel_rfl) ?_
 simp only[Tryz.f43,tt,seval]
 refine dDrawn.intro [] (iK [0,2,4,6,8,10,12,14,16,18,20,22,24,26,28,30]) (by kernel_rfl) ?_
 simp only[tt,seval]
 simp only[tt,seval,PB]
 cases hb:s.b with
 |true=>
  have e:kn L s=s.a:=if_neg (by rw[hb];simp)
  rw[e]
  simp only[tt,seval]
  exact⟨_,_,⟨rfl,rfl⟩,am (by simp only[tt,seval])⟩
 |false=>
  simp only[tt,seval]
  refine fun _=>aa (fun he=>?_) (fun he=>?_)
  ·have e:kn L s=s.a:=if_neg (by omega)
   rw[e]
   exact⟨_,_,⟨rfl,rfl⟩,am (by simp only[tt,seval])⟩
  ·have e:kn L s = -1:=if_pos ⟨hb,by omega⟩
   rw[e]
   exact⟨_,_,⟨rfl,rfl⟩,am (by simp only[tt,seval])⟩
theorem xJ (L:List Tok) (hL:L.length<=1048576) (hT:∀t∈L,t.text.size<=1048576) (s:PS) (ha:s.a<=L.length):Cl Tryz.prog 166 [.c (.p 9000 0)] [PB L s] fun r os=>r=vs (asM L s).1/\os=[PB L (asM L s).2]:=by
 refine ae ab false Tryz.func166 rfl (by kernel_rfl) ?_
 simp only[Tryz.f166,tt,seval]
 refine cS (ba L hL hT s 12 ⟨#[65,83]⟩ (by kernel_rfl) ha) ?_ ?_<;>simp only[tt,seval,PB]
 cases c:au L s 12 with
 |true=>
  have hm:asM L s=mText L 2 (adv s):=by rw[asM,if_pos c]
  rw[hm]
  simp only[tt,seval,gy]
  refine cS (cn L hL hT (adv s) 2 (aR (aq c))) ?_ ?_<;>simp only[tt,seval,PB]
  refine⟨_,[PB L (mText L 2 (adv s)).2],⟨rfl,rfl⟩,am ?_⟩
  simp only[tt,seval,PB]
 |false=>
  have hm:asM L s=(z0,s):=by rw[asM,if_neg (by rw[c];simp)]
  rw[hm]
  simp only[tt,seval,fY]
  refine⟨vs z0,[PB L s],⟨rfl,rfl⟩,am ?_⟩
  simp only[tt,seval,PB,z0]
def kG (n:Nat):List D:=[.lit (.int .i64 n)]
theorem AW (n:Nat):(kG n).length=1:=rfl
theorem rH (L:List Tok) (hL:L.length<=1048576) (hT:∀t∈L,t.text.size<=1048576) (s:PS) (ops:List Nat) (hn:ops.length<=100) (ho:∀op∈ops,1<=op/\op<=100) (ha:s.a<=L.length):Cl Tryz.prog 158 [.c (.p 9000 0),.c (.sl ops.length (ops.flatMap kG) none)] [PB L s] fun r os=>r=vi (jt L s ops)/\os=[PB L (tkIf (decide (jt L s ops≠0)) s)]:=by
 refine ae ab false Tryz.func158 rfl (by kernel_rfl) ?_
 simp only[Tryz.f158,tt,seval]
 refine fun _=>?_
 refine dLoop.intro (fun f Lo p=>∃i:Nat,f 10=vi i/\i<=ops.length/\jt L s (ops.drop i)=jt L s ops/\Lo=[(9000,.str (PB L s))]/\p=none) (fun f _ _=>(ops.length-aU (f 10)).toNat) [(9000,.str (PB L s))] none ⟨ac rfl (ak _),al _,?_⟩ ?_
 ·simp only[tt,seval]
  exact⟨0,rfl,Nat.zero_le _,rfl⟩
 ·rintro g Lo p ⟨i,h10,hi,hin,rfl,rfl⟩
  simp only[tt,seval] at h10
  simp only[tt,seval,h10,Int.ofNat_lt]
  refine aa (fun hlt=>?_) (fun hge=>?_)
  ·have hlt:i<ops.length:=by omega
   have hx:ops[i]?=some ops[i]:=ay hlt
   obtain⟨ho1,ho2⟩:=ho ops[i] (aI hlt)
   rw[List.drop_eq_getElem_cons hlt,jt] at hin
   refine⟨by omega,by omega,_,aF AW hx,by rw[kG];simp,?_⟩
   generalize ops[i]=op at *
   simp only[tt,seval,kG]
   by_cases o1:op=1
   ·have d1:decide ((op:Int)=1)=true:=ap (by omega)
    simp only[tt,seval,d1]
    have hk:lN L s op=ki L s 0 (1:Nat) (oH op):=by
     unfold lN
     first|rw[if_pos (by omega)]|rw[if_neg (by omega)]
     rfl
    rw[hk] at hin
    refine cZ (fI op) ?_ ?_<;>simp only[tt,seval]
    refine cS (qm L hL hT s 0 1 (oH op) (by omega) ha) ?_ ?_<;>simp only[tt,seval,PB,h10]
    cases c:ki L s 0 (1:Nat) (oH op) with
    |true=>
     rw[if_pos c] at hin
     have hlt2:=(me c).2
     rw[<-hin]
     have h0:decide (op≠0)=true:=ap (by omega)
     simp only[tt,seval]
     rw[ax (n:=(s.a:Int)+1) (by omega) (by omega)]
     refine⟨vi op,[PB L (adv s)],⟨rfl,by rw[h0];rfl⟩,am ?_⟩
     simp only[tt,seval,PB,adv]
     omega
    |false=>
     rw[if_neg (by rw[c];simp)] at hin
     simp only[tt,seval]
     rw[dk i (by omega)]
     exact⟨[(9000,.str (PB L s))],none,ac rfl (ak _),al _,⟨i+1,rfl,by omega,hin,rfl,rfl⟩,by simp only[aU];omega⟩
   ·have d1:decide ((op:Int)=1)=false:=ao (by omega)
    by_cases o2:op=2
    ·have d2:decide ((op:Int)=2)=true:=ap (by omega)
     simp only[tt,seval,d1,d2]
     have hk:lN L s op=ki L s 0 (1:Nat) (oH op):=by
      unfold lN
      first|rw[if_pos (by omega)]|rw[if_neg (by omega)]
      rfl
     rw[hk] at hin
     refine cZ (fI op) ?_ ?_<;>simp only[tt,seval]
     refine cS (qm L hL hT s 0 1 (oH op) (by omega) ha) ?_ ?_<;>simp only[tt,seval,PB,h10]
     cases c:ki L s 0 (1:Nat) (oH op) with
     |true=>
      rw[if_pos c] at hin
      have hlt2:=(me c).2
      rw[<-hin]
      have h0:decide (op≠0)=true:=ap (by omega)
      simp only[tt,seval]
      rw[ax (n:=(s.a:Int)+1) (by omega) (by omega)]
      refine⟨vi op,[PB L (adv s)],⟨rfl,by rw[h0];rfl⟩,am ?_⟩
      simp only[tt,seval,PB,adv]
      omega
     |false=>
      rw[if_neg (by rw[c];simp)] at hin
      simp only[tt,seval]
      rw[dk i (by omega)]
      exact⟨[(9000,.str (PB L s))],none,ac rfl (ak _),al _,⟨i+1,rfl,by omega,hin,rfl,rfl⟩,by simp only[aU];omega⟩
    ·have d2:decide ((op:Int)=2)=false:=ao (by omega)
     simp only[tt,seval,d1,d2]
     have hk:lN L s op=ki L s 0 (5:Nat) (oH op):=by
      unfold lN
      first|rw[if_pos (by omega)]|rw[if_neg (by omega)]
      rfl
     rw[hk] at hin
     refine cZ (fI op) ?_ ?_<;>simp only[tt,seval]
     refine cS (qm L hL hT s 0 5 (oH op) (by omega) ha) ?_ ?_<;>simp only[tt,seval,PB,h10]
     cases c:ki L s 0 (5:Nat) (oH op) with
     |true=>
      rw[if_pos c] at hin
      have hlt2:=(me c).2
      rw[<-hin]
      have h0:decide (op≠0)=true:=ap (by omega)
      simp only[tt,seval]
      rw[ax (n:=(s.a:Int)+1) (by omega) (by omega)]
      refine⟨vi op,[PB L (adv s)],⟨rfl,by rw[h0];rfl⟩,am ?_⟩
      simp only[tt,seval,PB,adv]
      omega
     |false=>
      rw[if_neg (by rw[c];simp)] at hin
      simp only[tt,seval]
      rw[dk i (by omega)]
      exact⟨[(9000,.str (PB L s))],none,ac rfl (ak _),al _,⟨i+1,rfl,by omega,hin,rfl,rfl⟩,by simp only[aU];omega⟩
  ·have:i=ops.length:=by omega
   subst this
   rw[List.drop_length] at hin
   have h0:jt L s ops=0:=hin.symm
   rw[h0]
   simp only[tt,seval]
   exact⟨_,[PB L s],⟨rfl,rfl⟩,am (by simp only[tt,seval,PB])⟩
end Go.Proofs.YteffjmaadkkmeaaGreatDoor
set_option maxRecDepth 8000
namespace Go.Proofs.YteffjmaadkkmeaaGreatDoor
open Go Go.Dv Go.Cv
open Go.Vc (D cY d3 cN bk)
theorem AX (op:Nat) (a b:Expr) (Ak As Bk Bs:List (List Nat)):ClT Tryz.prog 159 [vi op,.ag (aB a.row [Ak,As]),.ag (aB b.row [Bk,Bs])] [] (Ak++(As++(Bk++Bs))).flatten fun r os=>os=[]/\∃Hk Hs,r = .ag (aB (f5 op a b).row [Hk,Hs]):=by
 obtain⟨k1,p1,n1,v1,q1,m1,ks1,ss1⟩:=a
 obtain⟨k2,p2,n2,v2,q2,m2,ks2,ss2⟩:=b
 simp only[ah,aB]
 refine nt ab (some (Ak++(As++(Bk++Bs)))) _ (fun ps h=>by injection h with h;subst h;first|rfl|simp) Tryz.func159 rfl (by kernel_rfl) ?_
 simp only[Tryz.f159,tt,seval]
 refine fun G=>⟨_,[],⟨rfl,G::(Ak++(As++(Bk++Bs))),[],rfl⟩,am ?_⟩
 simp only[tt,seval,dx,f5,bD,z0,ah,aB]
 first|done|((try refine⟨by omega,?_⟩);exact aK fun x=>by (try simp only[List.flatten_append,List.count_append]);omega)
def gA (L:List Tok) (fn:FuncId) (m:PM Expr):Prop:=∀s e s',m s=some (e,s')->s.a<=L.length->Cl Tryz.prog fn [.c (.p 9000 0)] [PB L s] fun r os=>(∃Fk Fs,r = .ag (aB (e).row [Fk,Fs]))/\os=[PB L s']
set_option maxHeartbeats 2000000 in
theorem gm (L:List Tok) (hL:L.length<=1048576) (hT:∀t∈L,t.text.size<=1048576) {f:PM Expr} (okf:OkM (L:=L) f) (g:FuncId) (hg:gA L g f) (lv:Nat) (hn:(lA lv).length<=100) (ho:∀op∈lA lv,1<=op/\op<=100) (s:PS) (x:Expr) (s':PS) (h:(match f s with|none=>none|some (e,s1)=>cH L f lv (L.length+1) e s1)=some (x,s')) (ha:s.a<=L.length):Cl Tryz.prog 92 [.c (.p 9000 0),.c (.fn g [9000] []),.c (.sl (lA lv).length ((lA lv).flatMap kG) none)] [PB L s] fun r os=>(∃Fk Fs,r = .ag (aB (x).row [Fk,Fs]))/\os=[PB L s']:=by
 split at h
 ·cases h
 rename_i e s1 he
 have ha1:=(okf _ _ _ he).2.1 ha
 have c1:=hg _ _ _ he ha
 obtain⟨k1,p1,n1,v1,q1,m1,ks1,ss1⟩:=e
 rw[ah] at c1
 refine ae ab true Tryz.func92 rfl (by kernel_rfl) ?_
 simp only[Tryz.f92,tt,seval]
 refine CallQ.intro (c1) ?_ ?_ ?_
 ·decide
 ·simp only[tt,seval,PB]
 rintro r os ⟨⟨Fk,Fs,rfl⟩,rfl⟩ hos
 simp only[tt,seval,PB,aB]
 refine dLoop.gh [] ?_
 refine dLoop0.intro (fun f' Lo p=>∃(e:Expr) (v:PS) (n:Nat) (Ek Es:List (List Nat)),cH L f lv n e v=some (x,s')/\v.a<=L.length/\Lo=[(9000,.str (PB L v)),(7,.str (aB (e).row [Ek,Es])),(6,.str [.v (.int .i64 0),.v (.int .i64 0),.v (.bool false),.v (.int .i64 0),.v (.int .i64 0),.v (.string ByteArray.empty),.v (.string ByteArray.empty),.v (.string ByteArray.empty),.v (.slice none 0 0),.v (.slice none 0 0)])]/\p=some (Ek++Es)) (fun _ Lo _=>L.length-vS Lo) [(9000,.str (PB L s1)),(7,.str (aB ((Expr.mk k1 p1 n1 v1 q1 m1 ks1 ss1)).row [Fk,Fs])),(6,.str [.v (.int .i64 0),.v (.int .i64 0),.v (.bool false),.v (.int .i64 0),.v (.int .i64 0),.v (.string ByteArray.empty),.v (.string ByteArray.empty),.v (.string ByteArray.empty),.v (.slice none 0 0),.v (.slice none 0 0)])] (some (Fk++Fs)) ⟨by rw[ah];exact ac rfl (ac rfl (ac rfl (ak _))),PoSub.refl _,?_⟩ ?_
 ·simp only[tt,seval]
  exact⟨(Expr.mk k1 p1 n1 v1 q1 m1 ks1 ss1),s1,L.length+1,Fk,Fs,h,ha1,rfl,rfl⟩
 ·rintro g' Lo p ⟨e,v,n,Ek,Es,hm,hv,rfl,rfl⟩
  obtain⟨k1,p1,n1,v1,q1,m1,ks1,ss1⟩:=e
  rw[ah]
  simp only[tt,seval,aB]
  refine cS (rH L hL hT v (lA lv) hn ho hv) ?_ ?_<;>simp only[tt,seval,PB]
  cases n with
  |zero=>cases hm
  |succ n=>
  rw[cH] at hm
  have hop0:jt L v (lA lv)=cG L v lv:=rfl
  rw[hop0]
  by_cases hop:cG L v lv=0
  ·rw[if_pos hop] at hm
   injection hm with hm;injection hm with h1 h2;subst h1 h2
   have e0:decide (((cG L v lv:Nat):Int)=0)=true:=ap (by omega)
   have e1:decide (¬cG L v lv=0)=false:=ao (by omega)
   simp only[tt,seval,hop,fY]
   refine⟨.ag (aB ((Expr.mk k1 p1 n1 v1 q1 m1 ks1 ss1)).row [Ek,Es]),[PB L (v)],⟨⟨Ek,Es,by first|rfl|simp only[rW,aB,Val.row,lc]⟩,rfl⟩,am ?_⟩
   simp only[tt,seval,PB,ah,aB]
   first|done|((try refine⟨by omega,?_⟩);exact aK fun x=>by (try simp only[List.flatten_append,List.count_append]);omega)
  ·rw[if_neg hop] at hm
   split at hm
   ·cases hm
   rename_i z u hz
   have hav:=aR (L:=L) (dm hop)
   have o3:=okf _ _ _ hz
   have o3a:v.a+1<=u.a:=o3.1
   have hu:=o3.2.1 hav
   have hlt:=(dm hop).2
   obtain⟨k2,p2,n2,v2,q2,m2,ks2,ss2⟩:=z
   have c2:=hg _ _ _ hz hav
   rw[ah] at c2
   have cb:=fun Gk Gs=>AX (cG L v lv) (Expr.mk k1 p1 n1 v1 q1 m1 ks1 ss1) (Expr.mk k2 p2 n2 v2 q2 m2 ks2 ss2) Ek Es Gk Gs
   simp only[ah,aB] at cb
   have e0:decide (((cG L v lv:Nat):Int)=0)=false:=ao (by omega)
   have e0':(((cG L v lv:Nat):Int)=0)=False:=eq_false (by omega)
   have e1:decide (¬cG L v lv=0)=true:=ap (by omega)
   simp only[tt,seval,e0',e1,gy]
   refine dDrawn.intro [20] (.take 0 (.take 2 (.br 1 (.br 3 (.br 4 (.br 5 .done .nobr) .nobr) .nobr) (.br 3 (.take 1 (.br 4 (.br 5 .done .nobr) .nobr)) .nobr)))) (by kernel_rfl) ?_
   simp only[tt,seval]
   all_goals repeat' first|refine cJ ?_ ?_|refine b7 ?_ ?_
   all_goals
    refine CallQ.intro (c2) ?_ ?_ ?_
    ·decide
    ·simp only[tt,seval,PB]
     decide
    rintro r os ⟨⟨Gk,Gs,rfl⟩,rfl⟩ hos
    simp only[tt,seval,PB,aB]
   all_goals repeat' first|refine cJ ?_ ?_|refine b7 ?_ ?_
   all_goals
    refine uT ([]) (cb Gk Gs) ?_ ?_ ?_ ?_
    ·decide
    ·simp only[tt,seval]
    ·exact fun x=>by simp only[List.flatten_append,List.flatten_nil,List.count_append,List.append_nil];omega
    rintro r os ⟨rfl,Hk,Hs,rfl⟩ hos
    simp only[tt,seval,f5,ah,aB]
   all_goals
    refine⟨[(9000,.str (PB L u)),(7,.str (aB ((f5 (cG L v lv) (Expr.mk k1 p1 n1 v1 q1 m1 ks1 ss1) (Expr.mk k2 p2 n2 v2 q2 m2 ks2 ss2))).row [Hk,Hs])),(6,.str [.v (.int .i64 0),.v (.int .i64 0),.v (.bool false),.v (.int .i64 0),.v (.int .i64 0),.v (.string ByteArray.empty),.v (.string ByteArray.empty),.v (.string ByteArray.empty),.v (.slice none 0 0),.v (.slice none 0 0)])],some (Hk++Hs),by simp only[dx,PB,f5,bD,z0,ah,List.flatMap_nil,List.flatMap_cons,List.append_nil,List.length_nil,List.length_cons,aB,lc];exact ac rfl (ac rfl (ac rfl (ak _))),PoSub.refl _,⟨_,u,n,Hk,Hs,hm,hu,rfl,rfl⟩,?_⟩
    show L.length-((u.a:Int)).toNat<L.length-((v.a:Int)).toNat
    omega
theorem Fh:lA 1=[1]:=rfl
theorem Fj:lA 2=[2]:=rfl
theorem Fn:lA 4=[3,4,5,6,7,8]:=rfl
theorem Fq:lA 5=[9]:=rfl
theorem Ft:lA 6=[10,11]:=rfl
theorem Fu:lA 7=[12,13,14]:=rfl
set_option maxHeartbeats 1000000 in
theorem AY (L:List Tok) (hL:L.length<=1048576) (hT:∀t∈L,t.text.size<=1048576) {f:Nat->PM Expr} {q:PM Query} (ok:OkM (L:=L) (f 2)) (hg:gA L 93 (f 2)):gA L 42 (stepE L f q 1):=by
 intro s x s' h ha
 have h:(match f 2 s with|none=>none|some (e,s1)=>cH L (f 2) 1 (L.length+1) e s1)=some (x,s'):=h
 have c1:=gm L hL hT ok 93 hg 1 (by decide) (by decide) s x s' h ha
 obtain⟨k1,p1,n1,v1,q1,m1,ks1,ss1⟩:=x
 rw[ah] at c1
 simp only[Fh] at c1
 refine ae ab true Tryz.func42 rfl (by kernel_rfl) ?_
 simp only[Tryz.f42,tt,seval]
 refine rx [6] ?_
 simp only[tt,seval,PB]
 refine fun G=>?_
 refine Call1.intro (c1) ?_ ?_ ?_
 ·decide
 ·simp only[tt,seval,PB,kG]
 rintro r os ⟨⟨Fk,Fs,rfl⟩,rfl⟩ hos
 simp only[tt,seval,PB,kG,aB]
 refine⟨.ag (aB ((Expr.mk k1 p1 n1 v1 q1 m1 ks1 ss1)).row [Fk,Fs]),[PB L (s')],⟨⟨Fk,Fs,by first|rfl|simp only[rW,aB,Val.row,lc]⟩,rfl⟩,am ?_⟩
 simp only[tt,seval,PB,ah,aB]
 first|done|((try refine⟨by omega,?_⟩);exact aK fun x=>by (try simp only[List.flatten_append,List.count_append]);omega)
set_option maxHeartbeats 1000000 in
theorem yE (L:List Tok) (hL:L.length<=1048576) (hT:∀t∈L,t.text.size<=1048576) {f:Nat->PM Expr} {q:PM Query} (ok:OkM (L:=L) (f 3)) (hg:gA L 160 (f 3)):gA L 93 (stepE L f q 2):=by
 intro s x s' h ha
 have h:(match f 3 s with|none=>none|some (e,s1)=>cH L (f 3) 2 (L.length+1) e s1)=some (x,s'):=h
 have c1:=gm L hL hT ok 160 hg 2 (by decide) (by decide) s x s' h ha
 obtain⟨k1,p1,n1,v1,q1,m1,ks1,ss1⟩:=x
 rw[ah] at c1
 simp only[Fj] at c1
 refine ae ab true Tryz.func93 rfl (by kernel_rfl) ?_
 simp only[Tryz.f93,tt,seval]
 refine rx [6] ?_
 simp only[tt,seval,PB]
 refine fun G=>?_
 refine Call1.intro (c1) ?_ ?_ ?_
 ·decide
 ·simp only[tt,seval,PB,kG]
 rintro r os ⟨⟨Fk,Fs,rfl⟩,rfl⟩ hos
 simp only[tt,seval,PB,kG,aB]
 refine⟨.ag (aB ((Expr.mk k1 p1 n1 v1 q1 m1 ks1 ss1)).row [Fk,Fs]),[PB L (s')],⟨⟨Fk,Fs,by first|rfl|simp only[rW,aB,Val.row,lc]⟩,rfl⟩,am ?_⟩
 simp only[tt,seval,PB,ah,aB]
 first|done|((try refine⟨by omega,?_⟩);exact aK fun x=>by (try simp only[List.flatten_append,List.count_append]);omega)
set_option maxHeartbeats 1000000 in
theorem yF (L:List Tok) (hL:L.length<=1048576) (hT:∀t∈L,t.text.size<=1048576) {f:Nat->PM Expr} {q:PM Query} (ok:OkM (L:=L) (f 6)) (hg:gA L 303 (f 6)):gA L 266 (stepE L f q 5):=by
 intro s x s' h ha
 have h:(match f 6 s with|none=>none|some (e,s1)=>cH L (f 6) 5 (L.length+1) e s1)=some (x,s'):=h
 have c1:=gm L hL hT ok 303 hg 5 (by decide) (by decide) s x s' h ha
 obtain⟨k1,p1,n1,v1,q1,m1,ks1,ss1⟩:=x
 rw[ah] at c1
 simp only[Fq] at c1
 refine ae ab true Tryz.func266 rfl (by kernel_rfl) ?_
 simp only[Tryz.f266,tt,seval]
 refine rx [6] ?_
 simp only[tt,seval,PB]
 refine fun G=>?_
 refine Call1.intro (c1) ?_ ?_ ?_
 ·decide
 ·simp only[tt,seval,PB,kG]
 rintro r os ⟨⟨Fk,Fs,rfl⟩,rfl⟩ hos
 simp only[tt,seval,PB,kG,aB]
 refine⟨.ag (aB ((Expr.mk k1 p1 n1 v1 q1 m1 ks1 ss1)).row [Fk,Fs]),[PB L (s')],⟨⟨Fk,Fs,by first|rfl|simp only[rW,aB,Val.row,lc]⟩,rfl⟩,am ?_⟩
 simp only[tt,seval,PB,ah,aB]
 first|done|((try refine⟨by omega,?_⟩);exact aK fun x=>by (try simp only[List.flatten_append,List.count_append]);omega)
set_option maxHeartbeats 1000000 in
theorem yG (L:List Tok) (hL:L.length<=1048576) (hT:∀t∈L,t.text.size<=1048576) {f:Nat->PM Expr} {q:PM Query} (ok:OkM (L:=L) (f 7)) (hg:gA L 325 (f 7)):gA L 303 (stepE L f q 6):=by
 intro s x s' h ha
 have h:(match f 7 s with|none=>none|some (e,s1)=>cH L (f 7) 6 (L.length+1) e s1)=some (x,s'):=h
 have c1:=gm L hL hT ok 325 hg 6 (by decide) (by decide) s x s' h ha
 obtain⟨k1,p1,n1,v1,q1,m1,ks1,ss1⟩:=x
 rw[ah] at c1
 simp only[Ft] at c1
 refine ae ab true Tryz.func303 rfl (by kernel_rfl) ?_
 simp only[Tryz.f303,tt,seval]
 refine rx [6] ?_
 simp only[tt,seval,PB]
 refine fun G=>?_
 refine Call1.intro (c1) ?_ ?_ ?_
 ·decide
 ·simp only[tt,seval,PB,kG]
 rintro r os ⟨⟨Fk,Fs,rfl⟩,rfl⟩ hos
 simp only[tt,seval,PB,kG,aB]
 refine⟨.ag (aB ((Expr.mk k1 p1 n1 v1 q1 m1 ks1 ss1)).row [Fk,Fs]),[PB L (s')],⟨⟨Fk,Fs,by first|rfl|simp only[rW,aB,Val.row,lc]⟩,rfl⟩,am ?_⟩
 simp only[tt,seval,PB,ah,aB]
 first|done|((try refine⟨by omega,?_⟩);exact aK fun x=>by (try simp only[List.flatten_append,List.count_append]);omega)
set_option maxHeartbeats 1000000 in
theorem wm (L:List Tok) (hL:L.length<=1048576) (hT:∀t∈L,t.text.size<=1048576) {f:Nat->PM Expr} {q:PM Query} (ok:OkM (L:=L) (f 8)) (hg:gA L 337 (f 8)):gA L 325 (stepE L f q 7):=by
 intro s x s' h ha
 have h:(match f 8 s with|none=>none|some (e,s1)=>cH L (f 8) 7 (L.length+1) e s1)=some (x,s'):=h
 have c1:=gm L hL hT ok 337 hg 7 (by decide) (by decide) s x s' h ha
 obtain⟨k1,p1,n1,v1,q1,m1,ks1,ss1⟩:=x
 rw[ah] at c1
 simp only[Fu] at c1
 refine ae ab true Tryz.func325 rfl (by kernel_rfl) ?_
 simp only[Tryz.f325,tt,seval]
 refine rx [6] ?_
 simp only[tt,seval,PB]
 refine fun G=>?_
 refine Call1.intro (c1) ?_ ?_ ?_
 ·decide
 ·simp only[tt,seval,PB,kG]
 rintro r os ⟨⟨Fk,Fs,rfl⟩,rfl⟩ hos
 simp only[tt,seval,PB,kG,aB]
 refine⟨.ag (aB ((Expr.mk k1 p1 n1 v1 q1 m1 ks1 ss1)).row [Fk,Fs]),[PB L (s')],⟨⟨Fk,Fs,by first|rfl|simp only[rW,aB,Val.row,lc]⟩,rfl⟩,am ?_⟩
 simp only[tt,seval,PB,ah,aB]
 first|done|((try refine⟨by omega,?_⟩);exact aK fun x=>by (try simp only[List.flatten_append,List.count_append]);omega)
set_option maxHeartbeats 1000000 in
theorem yH (L:List Tok) (hL:L.length<=1048576) (hT:∀t∈L,t.text.size<=1048576) {f:Nat->PM Expr} {q:PM Query} (hs:gA L 160 (f 3)) (hg:gA L 223 (f 4)):gA L 160 (stepE L f q 3):=by
 intro s x s' h ha
 have h:(if au L s 15=true then (match f 3 (adv s) with|none=>none|some (e,s1)=>some (ua 15 e,s1)) else f 4 s)=some (x,s'):=h
 refine ae ab true Tryz.func160 rfl (by kernel_rfl) ?_
 simp only[Tryz.f160,tt,seval]
 refine cS (ba L hL hT s 15 ⟨#[78,79,84]⟩ (by kernel_rfl) ha) ?_ ?_<;>simp only[tt,seval,PB]
 cases c:au L s 15 with
 |true=>
  rw[if_pos c] at h
  split at h
  ·cases h
  rename_i e s1 he
  injection h with h;injection h with h1 h2;subst h1 h2
  obtain⟨k1,p1,n1,v1,q1,m1,ks1,ss1⟩:=e
  have c1:=hs _ _ _ he (aR (aq c))
  rw[ah] at c1
  simp only[tt,seval,gy]
  refine CallQ.intro (c1) ?_ ?_ ?_
  ·decide
  ·simp only[tt,seval,PB]
  rintro r os ⟨⟨Fk,Fs,rfl⟩,rfl⟩ hos
  simp only[tt,seval,PB,aB]
  refine fun G=>?_
  refine⟨.ag (aB (ua 15 (Expr.mk k1 p1 n1 v1 q1 m1 ks1 ss1)).row [G::(Fk++Fs),[]]),[PB L s1],⟨⟨_,_,rfl⟩,rfl⟩,am ?_⟩
  simp only[tt,seval,dx,PB,ua,bD,z0,ah,aB]
  first|done|((try refine⟨by omega,?_⟩);exact aK fun x=>by (try simp only[List.flatten_append,List.count_append]);omega)
 |false=>
  rw[if_neg (by rw[c];simp)] at h
  obtain⟨k1,p1,n1,v1,q1,m1,ks1,ss1⟩:=x
  have c1:=hg _ _ _ h ha
  rw[ah] at c1
  simp only[tt,seval,fY]
  refine CallQ.intro (c1) ?_ ?_ ?_
  ·decide
  ·simp only[tt,seval,PB]
  rintro r os ⟨⟨Fk,Fs,rfl⟩,rfl⟩ hos
  simp only[tt,seval,PB,aB]
  refine⟨.ag (aB ((Expr.mk k1 p1 n1 v1 q1 m1 ks1 ss1)).row [Fk,Fs]),[PB L (s')],⟨⟨Fk,Fs,by first|rfl|simp only[rW,aB,Val.row,lc]⟩,rfl⟩,am ?_⟩
  simp only[tt,seval,PB,ah,aB]
  first|done|((try refine⟨by omega,?_⟩);exact aK fun x=>by (try simp only[List.flatten_append,List.count_append]);omega)
set_option maxHeartbeats 1000000 in
theorem yI (L:List Tok) (hL:L.length<=1048576) (hT:∀t∈L,t.text.size<=1048576) {f:Nat->PM Expr} {q:PM Query} (hs:gA L 337 (f 8)) (hg:gA L 348 (f 9)):gA L 337 (stepE L f q 8):=by
 intro s x s' h ha
 have h:(if b3 L s 45=true then (match f 8 (adv s) with|none=>none|some (e,s1)=>some (ua 16 e,s1)) else f 9 s)=some (x,s'):=h
 refine ae ab true Tryz.func337 rfl (by kernel_rfl) ?_
 simp only[Tryz.f337,tt,seval]
 refine cS (cm L hL hT s 45 ha) ?_ ?_<;>simp only[tt,seval,PB]
 cases c:b3 L s 45 with
 |true=>
  rw[if_pos c] at h
  split at h
  ·cases h
  rename_i e s1 he
  injection h with h;injection h with h1 h2;subst h1 h2
  obtain⟨k1,p1,n1,v1,q1,m1,ks1,ss1⟩:=e
  have c1:=hs _ _ _ he (aR (aD c))
  rw[ah] at c1
  simp only[tt,seval,gy]
  refine CallQ.intro (c1) ?_ ?_ ?_
  ·decide
  ·simp only[tt,seval,PB]
  rintro r os ⟨⟨Fk,Fs,rfl⟩,rfl⟩ hos
  simp only[tt,seval,PB,aB]
  refine fun G=>?_
  refine⟨.ag (aB (ua 16 (Expr.mk k1 p1 n1 v1 q1 m1 ks1 ss1)).row [G::(Fk++Fs),[]]),[PB L s1],⟨⟨_,_,rfl⟩,rfl⟩,am ?_⟩
  simp only[tt,seval,dx,PB,ua,bD,z0,ah,aB]
  first|done|((try refine⟨by omega,?_⟩);exact aK fun x=>by (try simp only[List.flatten_append,List.count_append]);omega)
 |false=>
  rw[if_neg (by rw[c];simp)] at h
  obtain⟨k1,p1,n1,v1,q1,m1,ks1,ss1⟩:=x
  have c1:=hg _ _ _ h ha
  rw[ah] at c1
  simp only[tt,seval,fY]
  refine CallQ.intro (c1) ?_ ?_ ?_
  ·decide
  ·simp only[tt,seval,PB]
  rintro r os ⟨⟨Fk,Fs,rfl⟩,rfl⟩ hos
  simp only[tt,seval,PB,aB]
  refine⟨.ag (aB ((Expr.mk k1 p1 n1 v1 q1 m1 ks1 ss1)).row [Fk,Fs]),[PB L (s')],⟨⟨Fk,Fs,by first|rfl|simp only[rW,aB,Val.row,lc]⟩,rfl⟩,am ?_⟩
  simp only[tt,seval,PB,ah,aB]
  first|done|((try refine⟨by omega,?_⟩);exact aK fun x=>by (try simp only[List.flatten_append,List.count_append]);omega)
def DR (L:List Tok) (fn:FuncId) (m:PM Query):Prop:=∀s e s',m s=some (e,s')->s.a<=L.length->Cl Tryz.prog fn [.c (.p 9000 0)] [PB L s] fun r os=>(∃Fi Ff Fw Fo,r = .ag (aB (e).row [Fi,Ff,Fw,Fo]))/\os=[PB L s']
theorem qo (v:Val):Cl Tryz.prog 356 [.ag (av v.row)] [] fun r _=>r = .ag (aB (dr v).row [[],[]]):=by
 refine ae ab false Tryz.func356 rfl (by kernel_rfl) ?_
 simp only[Tryz.f356,tt,seval]
 simp only[tt,seval,Val.row]
 refine⟨.ag (aB (dr v).row [[],[]]),[],rfl,am ?_⟩
 simp only[tt,seval,dx,dr,z0,ah,aB]
set_option maxHeartbeats 2000000 in
theorem rI (L:List Tok) (hL:L.length<=1048576) (hT:∀t∈L,t.text.size<=1048576) {f:Nat->PM Expr} (ok:OkM (L:=L) (f 1)) (hg:gA L 42 (f 1)) (s:PS) (x:List Expr) (s':PS) (h:ju L f s=some (x,s')) (ha:s.a<=L.length):Cl Tryz.prog 172 [.c (.p 9000 0)] [PB L s] fun r os=>(x.length<=1048580/\∃F,r = .c (.ow 29 x.length (x.flatMap Expr.row) (some F)))/\os=[PB L s']:=by
 unfold ju at h
 split at h
 ·cases h
 rename_i e s1 he
 have ha1:=(ok _ _ _ he).2.1 ha
 have c1:=hg _ _ _ he ha
 obtain⟨k1,p1,n1,v1,q1,m1,ks1,ss1⟩:=e
 rw[ah] at c1
 refine ae ab true Tryz.func172 rfl (by kernel_rfl) ?_
 simp only[Tryz.f172,tt,seval]
 refine CallQ.intro (c1) ?_ ?_ ?_
 ·decide
 ·simp only[tt,seval,PB]
 rintro r os ⟨⟨Fk,Fs,rfl⟩,rfl⟩ hos
 simp only[tt,seval,PB,aB]
 refine dLoop.gh [.ren 6 13] ⟨by decide,by decide,?_⟩
 refine dLoop0.intro (fun f' Lo p=>∃(l:List Expr) (v:PS) (n:Nat) (Fl Pl:List (List Nat)),f' 3 = .c (.s 13 l.length)/\dy L (f 1) n l v=some (x,s')/\v.a<=L.length/\l.length<=v.a+1/\Sb Fl.flatten Pl.flatten/\Lo=[(9000,.str (PB L v)),(13,.arr 29 (l).length ((l).flatMap Expr.row) (some (Fl)))]/\p=some Pl) (fun _ Lo _=>L.length-vS Lo) [(9000,.str (PB L s1)),(13,.arr 29 ([(Expr.mk k1 p1 n1 v1 q1 m1 ks1 ss1)]).length (([(Expr.mk k1 p1 n1 v1 q1 m1 ks1 ss1)]).flatMap Expr.row) (some (Fk++Fs)))] (some (Fk++Fs)) ⟨by simp only[PB,ah,List.flatMap_nil,List.flatMap_cons,List.append_nil,List.length_nil,List.length_cons];exact ac rfl (ac rfl (ak _)),PoSub.refl _,?_⟩ ?_
 ·simp only[tt,seval]
  exact⟨[(Expr.mk k1 p1 n1 v1 q1 m1 ks1 ss1)],s1,L.length+1,Fk++Fs,Fk++Fs,rfl,h,ha1,by simp,Sb.refl _,rfl,rfl⟩
 ·rintro g' Lo p ⟨l,v,n,Fl,Pl,h3,hm,hv,hml,hsb,rfl,rfl⟩
  simp only[tt,seval] at h3
  simp only[tt,seval]
  refine cS (cm L hL hT v 44 hv) ?_ ?_<;>simp only[tt,seval,PB,h3]
  cases n with
  |zero=>cases hm
  |succ n=>
  rw[dy] at hm
  cases c44:b3 L v 44 with
  |true=>
   rw[if_pos c44] at hm
   split at hm
   ·cases hm
   rename_i z u hz
   have hav:=aR (L:=L) (aD c44)
   have o3:=ok _ _ _ hz
   have o3a:v.a+1<=u.a:=o3.1
   have hu:=o3.2.1 hav
   have hlt:=(aD c44).2
   obtain⟨k2,p2,n2,v2,q2,m2,ks2,ss2⟩:=z
   have c2:=hg _ _ _ hz hav
   rw[ah] at c2
   simp only[tt,seval,gy]
   refine CallQ.intro (c2) ?_ ?_ ?_
   ·decide
   ·simp only[tt,seval,PB]
   rintro r os ⟨⟨Gk,Gs,rfl⟩,rfl⟩ hos
   simp only[tt,seval,PB,aB]
   refine⟨by kernel_rfl,⟨by simp only[maxLen];omega,by omega⟩,?_⟩
   refine⟨[(9000,.str (PB L u)),(13,.arr 29 ((l++[(Expr.mk k2 p2 n2 v2 q2 m2 ks2 ss2)])).length (((l++[(Expr.mk k2 p2 n2 v2 q2 m2 ks2 ss2)])).flatMap Expr.row) (some (Fl++(Gk++Gs))))],some (Pl++(Gk++Gs)),by simp only[PB,ah,List.flatMap_nil,List.flatMap_cons,List.append_nil,List.length_nil,List.length_cons,List.flatMap_append,aA];exact ac rfl (ac rfl (ak _)),PoSub.refl _,⟨l++[(Expr.mk k2 p2 n2 v2 q2 m2 ks2 ss2)],u,n,_,_,by simp,hm,hu,by simp;omega,by simp only[List.flatten_append];exact hsb.append (Sb.refl _),rfl,rfl⟩,?_⟩
   show L.length-((u.a:Int)).toNat<L.length-((v.a:Int)).toNat
   omega
  |false=>
   rw[if_neg (by rw[c44];simp)] at hm
   injection hm with hm;injection hm with e1 e2;subst e1 e2
   simp only[tt,seval,fY]
   refine⟨.c (.ow 29 l.length (l.flatMap Expr.row) (some Fl)),[PB L v],⟨⟨by omega,Fl,rfl⟩,rfl⟩,am ?_⟩
   simp only[tt,seval,PB]
   exact hsb
set_option maxHeartbeats 4000000 in
theorem AZ (L:List Tok) (hL:L.length<=1048576) (hT:∀t∈L,t.text.size<=1048576) {f:Nat->PM Expr} {q:PM Query} (ok:∀lv,OkM (L:=L) (f lv)) (okq:OkM (L:=L) q) (hor:gA L 42 (f 1)) (hq:DR L 54 q) (e:Expr) (not:Bool) (Ek Es:List (List Nat)) (s:PS) (x:Expr) (s':PS) (h:vE L f q e not s=some (x,s')) (ha:s.a<=L.length):ClT Tryz.prog 267 [.c (.p 9000 0),.ag (aB e.row [Ek,Es]),vb not] [PB L s] (Ek++Es).flatten fun r os=>(∃Hk Hs,r = .ag (aB x.row [Hk,Hs]))/\os=[PB L s']:=by
 obtain⟨k1,p1,n1,v1,q1,m1,ks1,ss1⟩:=e
 unfold vE at h
 simp only at h
 simp only[ah,aB]
 refine nt ab (some (Ek++Es)) _ (fun ps h=>by injection h with h;subst h;first|rfl|simp) Tryz.func267 rfl (by kernel_rfl) ?_
 simp only[Tryz.f267,tt,seval]
 refine cS (d6 L hL hT s 40 ha) ?_ ?_<;>simp only[tt,seval,PB]
 have o1:Ok L s (must (b3 L s 40) s):=Ok.must fun h=>aD h
 have ha1:=o1.2.1 ha
 generalize must (b3 L s 40) s=u at *
 refine cS (qn L hL hT u 1 ⟨#[83,69,76,69,67,84]⟩ (by kernel_rfl) ha1) ?_ ?_<;>simp only[tt,seval,PB]
 cases c1:au L u 1 with
 |true=>
  rw[if_pos c1] at h
  split at h
  ·cases h
  rename_i y t hy
  injection h with h;injection h with h1 h2;subst h1 h2
  have ht:=(okq _ _ _ hy).2.1 ha1
  obtain⟨d,its,frs,whs,ods,lim⟩:=y
  have cq:=hq _ _ _ hy ha1
  rw[ar] at cq
  simp only[tt,seval]
  refine CallQ.intro (cq) ?_ ?_ ?_
  ·decide
  ·simp only[tt,seval,PB]
  rintro r os ⟨⟨Fi,Ff,Fw,Fo,rfl⟩,rfl⟩ hos
  simp only[tt,seval,PB,aB]
  refine cS (d6 L hL hT t 41 ht) ?_ ?_<;>simp only[tt,seval,PB]
  refine fun G0=>?_
  refine fun G1=>?_
  refine⟨.ag (aB (cB 8 not [(Expr.mk k1 p1 n1 v1 q1 m1 ks1 ss1)] [(Query.mk d its frs whs ods lim)]).row [G0::(Ek++Es),G1::(Fi++(Ff++(Fw++Fo)))]),[PB L (must (b3 L t 41) t)],⟨⟨_,_,rfl⟩,rfl⟩,am ?_⟩
  simp only[tt,seval,dx,PB,cB,bD,z0,ah,ar,aB]
  first|done|((try refine⟨by omega,?_⟩);exact aK fun x=>by (try simp only[List.flatten_append,List.flatten_cons,List.count_append]);omega)
 |false=>
  rw[if_neg (by rw[c1];simp)] at h
  split at h
  ·cases h
  rename_i l t hl
  injection h with h;injection h with h1 h2;subst h1 h2
  have ht:=(OkM.ors ok _ _ _ hl).2.1 ha1
  have cl:=rI L hL hT (ok 1) hor _ _ _ hl ha1
  simp only[tt,seval]
  refine dDrawn.intro [24] (.take 0 (.take 2 (.br 1 (.br 3 (.br 4 (.take 5 (.br 6 .done .nobr)) .nobr) .nobr) (.br 3 (.take 1 (.br 4 (.take 5 (.br 6 .done .nobr)) .nobr)) .nobr)))) (by kernel_rfl) ?_
  simp only[tt,seval]
  all_goals repeat' first|refine cJ ?_ ?_|refine b7 ?_ ?_
  all_goals
   refine CallQ.intro (cl) ?_ ?_ ?_
   ·decide
   ·simp only[tt,seval,PB]
    decide
   rintro r os ⟨⟨hlen,Fl,rfl⟩,rfl⟩ hos
   simp only[tt,seval,PB]
  all_goals repeat' first|refine jU ?_ ?_|refine dR ?_ ?_|refine dS ?_ ?_
  all_goals
   refine⟨by kernel_rfl,bn aC l,⟨by simp only[maxLen];omega,by omega⟩,?_⟩
  all_goals
   refine cS (d6 L hL hT t 41 ht) ?_ ?_<;>simp only[tt,seval,PB]
   refine fun G0=>?_
   refine⟨.ag (aB (cB 7 not ((Expr.mk k1 p1 n1 v1 q1 m1 ks1 ss1)::l) []).row [G0::(Ek++Es++Fl),[]]),[PB L (must (b3 L t 41) t)],⟨⟨_,_,rfl⟩,rfl⟩,am ?_⟩
   simp only[tt,seval,dx,PB,cB,bD,z0,ah,aB]
   first|done|((try refine⟨by omega,?_⟩);exact aK fun x=>by (try simp only[List.flatten_append,List.count_append]);omega)
theorem uW (k:Int):Cl Tryz.prog 357 [vi k] [] fun r _=>r = .ag (av (Val.mk 1 k z0).row):=by
 refine ae ab false Tryz.func357 rfl (by kernel_rfl) ?_
 simp only[Tryz.f357,tt,seval]
 refine⟨.ag (av (Val.mk 1 k z0).row),[],rfl,am ?_⟩
 simp only[tt,seval,Val.row,z0,dx]
theorem sV (s:ByteArray):Cl Tryz.prog 358 [vs s] [] fun r _=>r = .ag (av (Val.mk 2 0 s).row):=by
 refine ae ab false Tryz.func358 rfl (by kernel_rfl) ?_
 simp only[Tryz.f358,tt,seval]
 refine⟨.ag (av (Val.mk 2 0 s).row),[],rfl,am ?_⟩
 simp only[tt,seval,Val.row]
theorem sW:Cl Tryz.prog 359 [vb true] [] fun r _=>r = .ag (av (Val.mk 3 1 z0).row):=by
 refine ae ab false Tryz.func359 rfl (by kernel_rfl) ?_
 simp only[Tryz.f359,tt,seval]
 refine⟨.ag (av (Val.mk 3 1 z0).row),[],rfl,am ?_⟩
 simp only[tt,seval,Val.row,z0,dx]
theorem sX:Cl Tryz.prog 359 [vb false] [] fun r _=>r = .ag (av (Val.mk 3 0 z0).row):=by
 refine ae ab false Tryz.func359 rfl (by kernel_rfl) ?_
 simp only[Tryz.f359,tt,seval]
 refine⟨.ag (av (Val.mk 3 0 z0).row),[],rfl,am ?_⟩
 simp only[tt,seval,Val.row,z0,dx]
set_option maxHeartbeats 4000000 in
theorem wn (L:List Tok) (hL:L.length<=1048576) (hT:∀t∈L,t.text.size<=1048576) {f:Nat->PM Expr} {q:PM Query} (ok1:OkM (L:=L) (f 1)) (okq:OkM (L:=L) q) (hf:gA L 42 (f 1)) (hq:DR L 54 q):gA L 348 (fD L f q):=by
 intro s e s' h ha
 have hts:=jy hL hT s
 unfold fD at h
 simp only at h
 refine ae ab true Tryz.func348 rfl (by kernel_rfl) ?_
 simp only[Tryz.f348,tt,seval]
 refine cS (jb L hL hT s 3 ha) ?_ ?_<;>simp only[tt,seval,PB]
 cases c3:mN L s 3 with
 |true=>
  rw[if_pos c3] at h
  injection h with h;injection h with h1 h2;subst h1 h2
  simp only[tt,seval]
  refine cS (iM L hL hT s ha) ?_ ?_<;>simp only[tt,seval,PB]
  have hn:mNum L s=(ic (bI L s),adv s):=by unfold mNum;rw[jz c3]
  rw[hn]
  refine cZ (uW (ic (bI L s))) ?_ ?_<;>simp only[tt,seval,Val.row]
  have cl:=qo ⟨1,ic (bI L s),z0⟩
  refine cZ (cl) ?_ ?_<;>simp only[tt,seval,dx,dr,z0,ah,aB,Val.row]
  refine⟨.ag (aB (dr ⟨1,ic (bI L s),z0⟩).row [[],[]]),[PB L (adv s)],⟨⟨[],[],rfl⟩,rfl⟩,am ?_⟩
  simp only[tt,seval,PB,dr,z0,ah,aB]
  first|done|((try refine⟨by omega,?_⟩);exact aK fun x=>by (try simp only[List.count_nil]);omega)
 |false=>
 rw[if_neg (by rw[c3];simp)] at h
 simp only[tt,seval]
 refine cS (jb L hL hT s 4 ha) ?_ ?_<;>simp only[tt,seval,PB]
 cases c4:mN L s 4 with
 |true=>
  rw[if_pos c4] at h
  injection h with h;injection h with h1 h2;subst h1 h2
  simp only[tt,seval]
  refine cS (cn L hL hT s 4 ha) ?_ ?_<;>simp only[tt,seval,PB]
  rw[jz c4]
  refine cZ (sV (bI L s)) ?_ ?_<;>simp only[tt,seval,Val.row]
  have cl:=qo ⟨2,0,bI L s⟩
  refine cZ (cl) ?_ ?_<;>simp only[tt,seval,dx,dr,z0,ah,aB,Val.row]
  refine⟨.ag (aB (dr ⟨2,0,bI L s⟩).row [[],[]]),[PB L (adv s)],⟨⟨[],[],rfl⟩,rfl⟩,am ?_⟩
  simp only[tt,seval,PB,dr,z0,ah,aB]
  first|done|((try refine⟨by omega,?_⟩);exact aK fun x=>by (try simp only[List.count_nil]);omega)
 |false=>
 rw[if_neg (by rw[c4];simp)] at h
 simp only[tt,seval]
 refine cS (ba L hL hT s 20 ⟨#[78,85,76,76]⟩ (by kernel_rfl) ha) ?_ ?_<;>simp only[tt,seval,PB]
 cases c20:au L s 20 with
 |true=>
  rw[if_pos c20] at h
  injection h with h;injection h with h1 h2;subst h1 h2
  simp only[tt,seval,gy]
  have cl:=qo bD
  refine cZ (cl) ?_ ?_<;>simp only[tt,seval,dx,dr,bD,z0,ah,aB,Val.row]
  refine⟨.ag (aB (dr bD).row [[],[]]),[PB L (adv s)],⟨⟨[],[],rfl⟩,rfl⟩,am ?_⟩
  simp only[tt,seval,PB,dr,bD,z0,ah,aB]
  first|done|((try refine⟨by omega,?_⟩);exact aK fun x=>by (try simp only[List.count_nil]);omega)
 |false=>
 rw[if_neg (by rw[c20];simp)] at h
 simp only[tt,seval,fY]
 refine cS (ba L hL hT s 21 ⟨#[84,82,85,69]⟩ (by kernel_rfl) ha) ?_ ?_<;>simp only[tt,seval,PB]
 cases c21:au L s 21 with
 |true=>
  rw[if_pos c21] at h
  injection h with h;injection h with h1 h2;subst h1 h2
  simp only[tt,seval,gy]
  refine cZ (sW) ?_ ?_<;>simp only[tt,seval,Val.row]
  have cl:=qo ⟨3,1,z0⟩
  refine cZ (cl) ?_ ?_<;>simp only[tt,seval,dx,dr,z0,ah,aB,Val.row]
  refine⟨.ag (aB (dr ⟨3,1,z0⟩).row [[],[]]),[PB L (adv s)],⟨⟨[],[],rfl⟩,rfl⟩,am ?_⟩
  simp only[tt,seval,PB,dr,z0,ah,aB]
  first|done|((try refine⟨by omega,?_⟩);exact aK fun x=>by (try simp only[List.count_nil]);omega)
 |false=>
 rw[if_neg (by rw[c21];simp)] at h
 simp only[tt,seval,fY]
 refine cS (ba L hL hT s 22 ⟨#[70,65,76,83,69]⟩ (by kernel_rfl) ha) ?_ ?_<;>simp only[tt,seval,PB]
 cases c22:au L s 22 with
 |true=>
  rw[if_pos c22] at h
  injection h with h;injection h with h1 h2;subst h1 h2
  simp only[tt,seval,gy]
  refine cZ (sX) ?_ ?_<;>simp only[tt,seval,Val.row]
  have cl:=qo ⟨3,0,z0⟩
  refine cZ (cl) ?_ ?_<;>simp only[tt,seval,dx,dr,z0,ah,aB,Val.row]
  refine⟨.ag (aB (dr ⟨3,0,z0⟩).row [[],[]]),[PB L (adv s)],⟨⟨[],[],rfl⟩,rfl⟩,am ?_⟩
  simp only[tt,seval,PB,dr,z0,ah,aB]
  first|done|((try refine⟨by omega,?_⟩);exact aK fun x=>by (try simp only[List.count_nil]);omega)
 |false=>
 rw[if_neg (by rw[c22];simp)] at h
 simp only[tt,seval,fY]
 refine cS (jb L hL hT s 2 ha) ?_ ?_<;>simp only[tt,seval,PB]
 cases c2:mN L s 2 with
 |true=>
  rw[if_pos c2] at h
  simp only[tt,seval]
  refine cS (cn L hL hT s 2 ha) ?_ ?_<;>simp only[tt,seval,PB]
  rw[jz c2]
  simp only[seval]
  have ha1:=aR (L:=L) (gu c2)
  refine cS (cm L hL hT (adv s) 46 ha1) ?_ ?_<;>simp only[tt,seval,PB]
  cases cd:b3 L (adv s) 46 with
  |true=>
   rw[if_pos cd] at h
   injection h with h;injection h with h1 h2;subst h1 h2
   simp only[tt,seval,gy]
   refine cS (cn L hL hT (adv (adv s)) 2 (aR (aD cd))) ?_ ?_<;>simp only[tt,seval,PB]
   refine⟨.ag (aB (md (bI L s) (mText L 2 (adv (adv s))).1).row [[],[]]),[PB L ((mText L 2 (adv (adv s))).2)],⟨⟨[],[],rfl⟩,rfl⟩,am ?_⟩
   simp only[tt,seval,dx,PB,md,bD,ah,aB]
   first|done|((try refine⟨by omega,?_⟩);exact aK fun x=>by (try simp only[List.count_nil]);omega)
  |false=>
   rw[if_neg (by rw[cd];simp)] at h
   injection h with h;injection h with h1 h2;subst h1 h2
   simp only[tt,seval,fY]
   refine⟨.ag (aB (md z0 (bI L s)).row [[],[]]),[PB L (adv s)],⟨⟨[],[],rfl⟩,rfl⟩,am ?_⟩
   simp only[tt,seval,dx,PB,md,bD,z0,ah,aB]
   first|done|((try refine⟨by omega,?_⟩);exact aK fun x=>by (try simp only[List.count_nil]);omega)
 |false=>
 rw[if_neg (by rw[c2];simp)] at h
 simp only[tt,seval]
 refine cS (cm L hL hT s 40 ha) ?_ ?_<;>simp only[tt,seval,PB]
 cases cl:b3 L s 40 with
 |true=>
  rw[if_pos cl] at h
  have ha1:=aR (L:=L) (aD cl)
  split at h
  ·cases h
  rename_i x t hx
  injection h with h;injection h with h1 h2;subst h1 h2
  have o2:=ok1 _ _ _ hx
  obtain⟨k1,p1,n1,v1,q1,m1,ks1,ss1⟩:=x
  have c:=hf _ _ _ hx ha1
  rw[ah] at c
  simp only[tt,seval,gy]
  refine CallQ.intro (c) ?_ ?_ ?_
  ·decide
  ·simp only[tt,seval,PB]
  rintro r os ⟨⟨Fk,Fs,rfl⟩,rfl⟩ hos
  simp only[tt,seval,PB,aB]
  refine cS (d6 L hL hT t 41 (o2.2.1 ha1)) ?_ ?_<;>simp only[tt,seval,PB]
  refine⟨.ag (aB ((Expr.mk k1 p1 n1 v1 q1 m1 ks1 ss1)).row [Fk,Fs]),[PB L (must (b3 L t 41) t)],⟨⟨Fk,Fs,by first|rfl|simp only[rW,aB,Val.row,lc]⟩,rfl⟩,am ?_⟩
  simp only[tt,seval,PB,ah,aB]
  first|done|((try refine⟨by omega,?_⟩);exact aK fun x=>by (try simp only[List.flatten_append,List.count_append]);omega)
 |false=>
 rw[if_neg (by rw[cl];simp)] at h
 simp only[tt,seval,fY]
 refine cS (ba L hL hT s 19 ⟨#[69,88,73,83,84,83]⟩ (by kernel_rfl) ha) ?_ ?_<;>simp only[tt,seval,PB]
 cases c19:au L s 19 with
 |true=>
  rw[if_pos c19] at h
  simp only[tt,seval,gy]
  have ha1:=aR (L:=L) (aq c19)
  have o1:Ok L (adv s) (must (b3 L (adv s) 40) (adv s)):=Ok.must fun h=>aD h
  refine cS (d6 L hL hT (adv s) 40 ha1) ?_ ?_<;>simp only[tt,seval,PB]
  split at h
  ·cases h
  rename_i x t hx
  injection h with h;injection h with h1 h2;subst h1 h2
  have o2:=okq _ _ _ hx
  obtain⟨d,its,frs,whs,ods,lim⟩:=x
  have c:=hq _ _ _ hx (o1.2.1 ha1)
  rw[ar] at c
  refine CallQ.intro (c) ?_ ?_ ?_
  ·decide
  ·simp only[tt,seval,PB]
  rintro r os ⟨⟨Fi,Ff,Fw,Fo,rfl⟩,rfl⟩ hos
  simp only[tt,seval,PB,aB]
  refine cS (d6 L hL hT t 41 (o2.2.1 (o1.2.1 ha1))) ?_ ?_<;>simp only[tt,seval,PB]
  refine fun G0=>?_
  refine⟨.ag (aB (cB 9 false [] [(Query.mk d its frs whs ods lim)]).row [[],G0::(Fi++(Ff++(Fw++Fo)))]),[PB L (must (b3 L t 41) t)],⟨⟨_,_,rfl⟩,rfl⟩,am ?_⟩
  simp only[tt,seval,dx,PB,cB,bD,z0,ah,ar,aB]
  first|done|((try refine⟨by omega,?_⟩);exact aK fun x=>by (try simp only[List.flatten_append,List.count_append]);omega)
 |false=>
  rw[if_neg (by rw[c19];simp)] at h
  injection h with h;injection h with h1 h2;subst h1 h2
  simp only[tt,seval,fY,fl]
  refine⟨.ag (aB (zExpr).row [[],[]]),[PB L (fl s)],⟨⟨[],[],rfl⟩,rfl⟩,am ?_⟩
  simp only[tt,seval,fl,dx,PB,zExpr,bD,z0,ah,aB]
  first|done|((try refine⟨by omega,?_⟩);exact aK fun x=>by (try simp only[List.count_nil]);omega)
end Go.Proofs.YteffjmaadkkmeaaGreatDoor
