/-
  The program's parser, first half.
  Conditions: none.
-/
import Derived.Test.YtbodcedhmccenaaGreatDoorSC1
set_option linter.unusedVariables false
set_option linter.unusedSimpArgs false
set_option linter.unusedSectionVars false
set_option maxRecDepth 8000
namespace Go.Proofs.YtbodcedhmccenaaGreatDoor
open Go Go.Dv
open Go.Vc (D d5 d6 cM bo)
theorem qq (L:List Tok) (hL:L.length<=1048576) (hT:∀t∈L,t.text.size<=1048576) (s:PS) (k:Nat) (kind:Nat) (x:ByteArray) (hk:k<=100) (ha:s.a<=L.length):Cl Tryz.prog 220 [.c (.p 9000 0),vi k,vi kind,vs x] [PB L s] fun r os=>r=vb (iA L s k kind x)/\os=[PB L s]:=by
 obtain⟨a,b⟩:=s
 have ha:a<=L.length:=ha
 have hw:IntKind.i64.wrap ((a:Int)+k)=((a+k:Nat):Int):=aq (n:=(a:Int)+k) (by omega) (by omega)
 cases b with
 |true=>
  have e:iA L ⟨a,true⟩ k kind x=false:=rfl
  rw[e]
  refine ah ab false Tryz.func220 rfl (by kernel_rfl) ?_
  simp only[Tryz.f220,tt,seval]
  simp only[tt,seval,PB,hw]
  refine⟨_,[PB L ⟨a,true⟩],⟨rfl,rfl⟩,ai ?_⟩
  simp only[tt,seval,PB]
 |false=>
  refine ah ab false Tryz.func220 rfl (by kernel_rfl) ?_
  simp only[Tryz.f220,tt,seval]
  simp only[tt,seval,PB,hw]
  refine fun _=>?_
  by_cases hlt:a+k<L.length
  ·have h1:decide (((a+k:Nat):Int)<(L.length:Int))=true:=av (by omega)
   have hx:L[a+k]?=some L[a+k]:=az hlt
   have e:iA L ⟨a,false⟩ k kind x=(decide (L[a+k].kind=kind)&&decide (L[a+k].text=x)):=by
    unfold iA gj
    simp only[Bool.false_eq_true,if_false,hx]
   have i0:((0:Int)<=((a+k:Nat):Int))=True:=eq_true (by omega)
   have iL:(((a+k:Nat):Int)<(L.length:Int))=True:=eq_true (by omega)
   have iT:(a+k<L.length)=True:=eq_true hlt
   rw[e]
   generalize L[a+k]=tk at *
   generalize a+k=j at *
   simp only[tt,seval,bP hx cn,i0,iL,Tok.row]
   cases hk1:decide (tk.kind=(kind:Int)) with
   |true=>
    simp only[tt,seval,bP hx cn,i0,iL,Tok.row]
    trace_state
    refine⟨_,[PB L ⟨a,false⟩],⟨rfl,rfl⟩,ai ?_⟩
    simp only[tt,seval,PB]
   |false=>
    simp only[tt,seval]
    trace_state
    refine⟨_,[PB L ⟨a,false⟩],⟨rfl,rfl⟩,ai ?_⟩
    simp only[tt,seval,PB]
  ·have h1:decide (((a+k:Nat):Int)<(L.length:Int))=false:=au (by omega)
   have e:iA L ⟨a,false⟩ k kind x=false:=by
    unfold iA gj
    simp only[Bool.false_eq_true,if_false,List.getElem?_eq_none_iff.2 (show L.length<=a+k by omega)]
   rw[e]
   simp only[tt,seval,h1]
   refine⟨_,[PB L ⟨a,false⟩],⟨rfl,rfl⟩,ai ?_⟩
   simp only[tt,seval,PB]
theorem ju (L:List Tok) (hL:L.length<=1048576) (hT:∀t∈L,t.text.size<=1048576) (s:PS) (k:Nat) (ha:s.a<=L.length):Cl Tryz.prog 221 [.c (.p 9000 0),vi k] [PB L s] fun r os=>r=vb (jz L s k)/\os=[PB L s]:=by
 obtain⟨a,b⟩:=s
 have ha:a<=L.length:=ha
 cases b with
 |true=>
  have e:jz L ⟨a,true⟩ k=false:=rfl
  rw[e]
  refine ah ab false Tryz.func221 rfl (by kernel_rfl) ?_
  simp only[Tryz.f221,tt,seval]
  refine dDrawn.intro [] (iO [0,2,4,6,8,10,12,14,16,18,20,22,24,26,28,30,32,34,36,38,40,42,44,46,48,50,52,54,56,58,60,62,64,66,68,70,72,74,76,78,80,82,84,87,88,90]) (by kernel_rfl) ?_
  simp only[tt,seval]
  simp only[tt,seval,PB]
  refine⟨_,[PB L ⟨a,true⟩],⟨rfl,rfl⟩,ai ?_⟩
  simp only[tt,seval,PB]
 |false=>
  refine ah ab false Tryz.func221 rfl (by kernel_rfl) ?_
  simp only[Tryz.f221,tt,seval]
  refine dDrawn.intro [] (iO [0,2,4,6,8,10,12,14,16,18,20,22,24,26,28,30,32,34,36,38,40,42,44,46,48,50,52,54,56,58,60,62,64,66,68,70,72,74,76,78,80,82,84,87,88,90]) (by kernel_rfl) ?_
  simp only[tt,seval]
  simp only[tt,seval,PB]
  refine fun _=>?_
  by_cases hlt:a<L.length
  ·have h1:decide ((a:Int)<(L.length:Int))=true:=av (by omega)
   have hx:L[a]?=some L[a]:=az hlt
   have ht:=hT L[a] (aK hlt)
   have e:jz L ⟨a,false⟩ k=(decide (L[a].kind=k)&&bg L[a]):=by
    unfold jz gj
    simp only[Bool.false_eq_true,if_false,Nat.add_zero,hx]
   have i0:((0:Int)<=(a:Int))=True:=eq_true (by omega)
   have iL:((a:Int)<(L.length:Int))=True:=eq_true (by omega)
   have iT:(a<L.length)=True:=eq_true hlt
   rw[e]
   generalize L[a]=tk at *
   simp only[tt,seval,bP hx cn,i0,iL,Tok.row]
   cases hk1:decide (tk.kind=(k:Int)) with
   |true=>
    simp only[tt,seval,bP hx cn,i0,iL,Tok.row]
    refine cZ (dj tk ht) ?_ ?_<;>simp only[tt,seval,Tok.row]
    refine⟨_,[PB L ⟨a,false⟩],⟨rfl,rfl⟩,ai ?_⟩
    simp only[tt,seval,PB]
   |false=>
    simp only[tt,seval]
    refine⟨_,[PB L ⟨a,false⟩],⟨rfl,rfl⟩,ai ?_⟩
    simp only[tt,seval,PB]
  ·have h1:decide ((a:Int)<(L.length:Int))=false:=au (by omega)
   have e:jz L ⟨a,false⟩ k=false:=by
    unfold jz gj
    simp only[Bool.false_eq_true,if_false,Nat.add_zero,List.getElem?_eq_none_iff.2 (show L.length<=a by omega)]
   rw[e]
   simp only[tt,seval,h1]
   refine⟨_,[PB L ⟨a,false⟩],⟨rfl,rfl⟩,ai ?_⟩
   simp only[tt,seval,PB]
theorem qr (L:List Tok) (hL:L.length<=1048576) (hT:∀t∈L,t.text.size<=1048576) (s:PS) (k:Nat) (w:ByteArray) (hw:w=kw k) (ha:s.a<=L.length):Cl Tryz.prog 114 [.c (.p 9000 0),vs w] [PB L s] fun r os=>r=vb (ap L s k)/\os=[PB L s]:=by
 subst hw
 rw[show ap L s k=iA L s 0 1 (kw k) from rfl]
 refine ah ab false Tryz.func114 rfl (by kernel_rfl) ?_
 simp only[Tryz.f114,tt,seval]
 refine cS (qq L hL hT s 0 1 (kw k) (by omega) ha) ?_ ?_<;>simp only[tt,seval,PB]
 refine⟨_,[PB L s],⟨rfl,rfl⟩,ai ?_⟩
 simp only[tt,seval,PB]
theorem zn (L:List Tok) (hL:L.length<=1048576) (hT:∀t∈L,t.text.size<=1048576) (s:PS) (c:UInt8) (ha:s.a<=L.length):Cl Tryz.prog 224 [.c (.p 9000 0),vs ⟨#[c]⟩] [PB L s] fun r os=>r=vb (aN L s c)/\os=[PB L s]:=by
 rw[show aN L s c=iA L s 0 5 ⟨#[c]⟩ from rfl]
 refine ah ab false Tryz.func224 rfl (by kernel_rfl) ?_
 simp only[Tryz.f224,tt,seval]
 refine cS (qq L hL hT s 0 5 ⟨#[c]⟩ (by omega) ha) ?_ ?_<;>simp only[tt,seval,PB]
 refine⟨_,[PB L s],⟨rfl,rfl⟩,ai ?_⟩
 simp only[tt,seval,PB]
theorem bh (L:List Tok) (hL:L.length<=1048576) (hT:∀t∈L,t.text.size<=1048576) (s:PS) (k:Nat) (w:ByteArray) (hw:w=kw k) (ha:s.a<=L.length):Cl Tryz.prog 115 [.c (.p 9000 0),vs w] [PB L s] fun r os=>r=vb (ap L s k)/\os=[PB L (tkIf (ap L s k) s)]:=by
 refine ah ab false Tryz.func115 rfl (by kernel_rfl) ?_
 simp only[Tryz.f115,tt,seval]
 refine cS (qr L hL hT s k w hw ha) ?_ ?_<;>simp only[tt,seval,PB]
 cases c:ap L s k with
 |true=>
  have hlt:=(ao c).2
  simp only[tt,seval]
  rw[aq (n:=(s.a:Int)+1) (by omega) (by omega)]
  refine⟨_,[PB L (adv s)],⟨rfl,rfl⟩,ai ?_⟩
  simp only[tt,seval,PB,adv]
  omega
 |false=>
  simp only[tt,seval]
  refine⟨_,[PB L s],⟨rfl,rfl⟩,ai ?_⟩
  simp only[tt,seval,PB]
theorem cD (L:List Tok) (hL:L.length<=1048576) (hT:∀t∈L,t.text.size<=1048576) (s:PS) (c:UInt8) (ha:s.a<=L.length):Cl Tryz.prog 119 [.c (.p 9000 0),vs ⟨#[c]⟩] [PB L s] fun r os=>r=vb (aN L s c)/\os=[PB L (tkIf (aN L s c) s)]:=by
 refine ah ab false Tryz.func119 rfl (by kernel_rfl) ?_
 simp only[Tryz.f119,tt,seval]
 refine cS (zn L hL hT s c ha) ?_ ?_<;>simp only[tt,seval,PB]
 cases c:aN L s c with
 |true=>
  have hlt:=(ax c).2
  simp only[tt,seval]
  rw[aq (n:=(s.a:Int)+1) (by omega) (by omega)]
  refine⟨_,[PB L (adv s)],⟨rfl,rfl⟩,ai ?_⟩
  simp only[tt,seval,PB,adv]
  omega
 |false=>
  simp only[tt,seval]
  refine⟨_,[PB L s],⟨rfl,rfl⟩,ai ?_⟩
  simp only[tt,seval,PB]
theorem dq (L:List Tok) (hL:L.length<=1048576) (hT:∀t∈L,t.text.size<=1048576) (s:PS) (k:Nat) (w:ByteArray) (hw:w=kw k) (ha:s.a<=L.length):Cl Tryz.prog 116 [.c (.p 9000 0),vs w] [PB L s] fun r os=>r = .tu []/\os=[PB L (must (ap L s k) s)]:=by
 refine ah ab false Tryz.func116 rfl (by kernel_rfl) ?_
 simp only[Tryz.f116,tt,seval]
 refine cS (bh L hL hT s k w hw ha) ?_ ?_<;>simp only[tt,seval,PB]
 cases c:ap L s k with
 |true=>
  simp only[tt,seval,gC,sI]
  refine⟨_,[PB L (adv s)],⟨rfl,rfl⟩,ai ?_⟩
  simp only[tt,seval,PB]
 |false=>
  simp only[tt,seval,fY,Fn]
  refine⟨_,[PB L (fl s)],⟨rfl,rfl⟩,ai ?_⟩
  simp only[tt,seval,PB,fl]
theorem db (L:List Tok) (hL:L.length<=1048576) (hT:∀t∈L,t.text.size<=1048576) (s:PS) (c:UInt8) (ha:s.a<=L.length):Cl Tryz.prog 222 [.c (.p 9000 0),vs ⟨#[c]⟩] [PB L s] fun r os=>r = .tu []/\os=[PB L (must (aN L s c) s)]:=by
 refine ah ab false Tryz.func222 rfl (by kernel_rfl) ?_
 simp only[Tryz.f222,tt,seval]
 refine cS (cD L hL hT s c ha) ?_ ?_<;>simp only[tt,seval,PB]
 cases c:aN L s c with
 |true=>
  simp only[tt,seval,gC,sI]
  refine⟨_,[PB L (adv s)],⟨rfl,rfl⟩,ai ?_⟩
  simp only[tt,seval,PB]
 |false=>
  simp only[tt,seval,fY,Fn]
  refine⟨_,[PB L (fl s)],⟨rfl,rfl⟩,ai ?_⟩
  simp only[tt,seval,PB,fl]
theorem cE (L:List Tok) (hL:L.length<=1048576) (hT:∀t∈L,t.text.size<=1048576) (s:PS) (k:Nat) (ha:s.a<=L.length):Cl Tryz.prog 117 [.c (.p 9000 0),vi k] [PB L s] fun r os=>r=vs (mText L k s).1/\os=[PB L (mText L k s).2]:=by
 refine ah ab false Tryz.func117 rfl (by kernel_rfl) ?_
 simp only[Tryz.f117,tt,seval]
 refine cS (ju L hL hT s k ha) ?_ ?_<;>simp only[tt,seval,PB]
 cases c:jz L s k with
 |true=>
  obtain⟨hb,hlt⟩:=gu c
  rw[jI c]
  simp only[tt,seval]
  rw[aq (n:=(s.a:Int)+1) (by omega) (by omega)]
  refine dDrawn.intro [] (iO [0,2,4,6,8,10,12,14,16,18,20,22,24]) (by kernel_rfl) ?_
  simp only[tt,seval]
  have e1:IntKind.i64.wrap ((s.a:Int)+1-1)=s.a:=by rw[aq (n:=(s.a:Int)+1-1) (by omega) (by omega)];omega
  have hx:L[s.a]?=some L[s.a]:=az hlt
  have e2:bG L s=L[s.a].text:=by
   unfold bG gj
   rw[hb]
   simp only[Bool.false_eq_true,if_false,Nat.add_zero,hx]
  have i0:((0:Int)<=(s.a:Int))=True:=eq_true (by omega)
  have iL:((s.a:Int)<(L.length:Int))=True:=eq_true (by omega)
  have iT:(s.a<L.length)=True:=eq_true hlt
  rw[e2]
  generalize L[s.a]=tk at *
  simp only[tt,seval,e1,bP hx cn,i0,iL,Tok.row]
  refine⟨_,[PB L (adv s)],⟨rfl,rfl⟩,ai ?_⟩
  simp only[tt,seval,PB,adv]
  omega
 |false=>
  have e:mText L k s=(⟨#[]⟩,fl s):=by rw[mText,if_neg (by rw[c];simp)]
  rw[e]
  simp only[tt,seval]
  refine⟨vs ⟨#[]⟩,[PB L (fl s)],⟨rfl,rfl⟩,ai ?_⟩
  simp only[tt,seval,PB,fl]
theorem j4 (L:List Tok) (hL:L.length<=1048576) (hT:∀t∈L,t.text.size<=1048576) (s:PS) (ha:s.a<=L.length):Cl Tryz.prog 203 [.c (.p 9000 0)] [PB L s] fun r os=>r=vi (mNum L s).1/\os=[PB L (mNum L s).2]:=by
 have hsz:(mText L 3 s).1.size<=1048576:=by
  unfold mText
  split
  ·exact jH hL hT s
  ·exact Nat.zero_le _
 have e:mNum L s=(jD (mText L 3 s).1,(mText L 3 s).2):=rfl
 rw[e]
 refine ah ab false Tryz.func203 rfl (by kernel_rfl) ?_
 simp only[Tryz.f203,tt,seval]
 refine cS (cE L hL hT s 3 ha) ?_ ?_<;>simp only[tt,seval,PB]
 generalize (mText L 3 s).1=x at *
 refine cZ (rx x hsz) ?_ ?_<;>simp only[tt,seval,lC]
 refine⟨_,[PB L (mText L 3 s).2],⟨rfl,rfl⟩,ai ?_⟩
 simp only[tt,seval,PB]
theorem Bq (L:List Tok) (hL:L.length<=1048576) (hT:∀t∈L,t.text.size<=1048576) (s:PS) (ha:s.a<=L.length):Cl Tryz.prog 54 [.c (.p 9000 0)] [PB L s] fun r os=>r=vi (fM L s)/\os=[PB L s]:=by
 refine ah ab false Tryz.func54 rfl (by kernel_rfl) ?_
 simp only[Tryz.f54,tt,seval]
 refine dDrawn.intro [] (iO [0,2,4,6,8,10,12,14,16,18,20,22,24,26,28,30]) (by kernel_rfl) ?_
 simp only[tt,seval]
 simp only[tt,seval,PB]
 cases hb:s.b with
 |true=>
  have e:fM L s=s.a:=if_neg (by rw[hb];simp)
  rw[e]
  simp only[tt,seval]
  exact⟨_,_,⟨rfl,rfl⟩,ai (by simp only[tt,seval])⟩
 |false=>
  simp only[tt,seval]
  refine fun _=>aa (fun he=>?_) (fun he=>?_)
  ·have e:fM L s=s.a:=if_neg (by omega)
   rw[e]
   exact⟨_,_,⟨rfl,rfl⟩,ai (by simp only[tt,seval])⟩
  ·have e:fM L s = -1:=if_pos ⟨hb,by omega⟩
   rw[e]
   exact⟨_,_,⟨rfl,rfl⟩,ai (by simp only[tt,seval])⟩
theorem y3 (L:List Tok) (hL:L.length<=1048576) (hT:∀t∈L,t.text.size<=1048576) (s:PS) (ha:s.a<=L.length):Cl Tryz.prog 281 [.c (.p 9000 0)] [PB L s] fun r os=>r=vs (asM L s).1/\os=[PB L (asM L s).2]:=by
 refine ah ab false Tryz.func281 rfl (by kernel_rfl) ?_
 simp only[Tryz.f281,tt,seval]
 refine cS (bh L hL hT s 12 ⟨#[65,83]⟩ (by kernel_rfl) ha) ?_ ?_<;>simp only[tt,seval,PB]
 cases c:ap L s 12 with
 |true=>
  have hm:asM L s=mText L 2 (adv s):=by rw[asM,if_pos c]
  rw[hm]
  simp only[tt,seval,gC]
  refine cS (cE L hL hT (adv s) 2 (aR (ao c))) ?_ ?_<;>simp only[tt,seval,PB]
  refine⟨_,[PB L (mText L 2 (adv s)).2],⟨rfl,rfl⟩,ai ?_⟩
  simp only[tt,seval,PB]
 |false=>
  have hm:asM L s=(z0,s):=by rw[asM,if_neg (by rw[c];simp)]
  rw[hm]
  simp only[tt,seval,fY]
  refine⟨vs z0,[PB L s],⟨rfl,rfl⟩,ai ?_⟩
  simp only[tt,seval,PB,z0]
def kH (n:Nat):List D:=[.lit (.int .i64 n)]
theorem Br (n:Nat):(kH n).length=1:=rfl
theorem rS (L:List Tok) (hL:L.length<=1048576) (hT:∀t∈L,t.text.size<=1048576) (s:PS) (ops:List Nat) (hn:ops.length<=100) (ho:∀op∈ops,1<=op/\op<=100) (ha:s.a<=L.length):Cl Tryz.prog 308 [.c (.p 9000 0),.c (.sl ops.length (ops.flatMap kH) none)] [PB L s] fun r os=>r=vi (gZ L s ops)/\os=[PB L (tkIf (decide (gZ L s ops≠0)) s)]:=by
 refine ah ab false Tryz.func308 rfl (by kernel_rfl) ?_
 simp only[Tryz.f308,tt,seval]
 refine fun _=>?_
 refine dLoop.intro (fun f Lo p=>∃i:Nat,f 10=vi i/\i<=ops.length/\gZ L s (ops.drop i)=gZ L s ops/\Lo=[(9000,.str (PB L s))]/\p=none) (fun f _ _=>(ops.length-bq (f 10)).toNat) [(9000,.str (PB L s))] none ⟨ac rfl (al _),an _,?_⟩ ?_
 ·simp only[tt,seval]
  exact⟨0,rfl,Nat.zero_le _,rfl⟩
 ·rintro g Lo p ⟨i,h10,hi,hin,rfl,rfl⟩
  simp only[tt,seval] at h10
  simp only[tt,seval,h10,Int.ofNat_lt]
  refine aa (fun hlt=>?_) (fun hge=>?_)
  ·have hlt:i<ops.length:=by omega
   have hx:ops[i]?=some ops[i]:=az hlt
   obtain⟨ho1,ho2⟩:=ho ops[i] (aK hlt)
   rw[List.drop_eq_getElem_cons hlt,gZ] at hin
   refine⟨by omega,by omega,_,aE Br hx,by rw[kH];simp,?_⟩
   generalize ops[i]=op at *
   simp only[tt,seval,kH]
   by_cases o1:op=1
   ·have d1:decide ((op:Int)=1)=true:=av (by omega)
    simp only[tt,seval,d1]
    have hk:jY L s op=iA L s 0 (1:Nat) (qW op):=by
     unfold jY
     first|rw[if_pos (by omega)]|rw[if_neg (by omega)]
     rfl
    rw[hk] at hin
    refine cZ (nK op) ?_ ?_<;>simp only[tt,seval]
    refine cS (qq L hL hT s 0 1 (qW op) (by omega) ha) ?_ ?_<;>simp only[tt,seval,PB,h10]
    cases c:iA L s 0 (1:Nat) (qW op) with
    |true=>
     rw[if_pos c] at hin
     have hlt2:=(lY c).2
     rw[<-hin]
     have h0:decide (op≠0)=true:=av (by omega)
     simp only[tt,seval]
     rw[aq (n:=(s.a:Int)+1) (by omega) (by omega)]
     refine⟨vi op,[PB L (adv s)],⟨rfl,by rw[h0];rfl⟩,ai ?_⟩
     simp only[tt,seval,PB,adv]
     omega
    |false=>
     rw[if_neg (by rw[c];simp)] at hin
     simp only[tt,seval]
     rw[f5 i (by omega)]
     exact⟨[(9000,.str (PB L s))],none,ac rfl (al _),an _,⟨i+1,rfl,by omega,hin,rfl,rfl⟩,by simp only[bq];omega⟩
   ·have d1:decide ((op:Int)=1)=false:=au (by omega)
    by_cases o2:op=2
    ·have d2:decide ((op:Int)=2)=true:=av (by omega)
     simp only[tt,seval,d1,d2]
     have hk:jY L s op=iA L s 0 (1:Nat) (qW op):=by
      unfold jY
      first|rw[if_pos (by omega)]|rw[if_neg (by omega)]
      rfl
     rw[hk] at hin
     refine cZ (nK op) ?_ ?_<;>simp only[tt,seval]
     refine cS (qq L hL hT s 0 1 (qW op) (by omega) ha) ?_ ?_<;>simp only[tt,seval,PB,h10]
     cases c:iA L s 0 (1:Nat) (qW op) with
     |true=>
      rw[if_pos c] at hin
      have hlt2:=(lY c).2
      rw[<-hin]
      have h0:decide (op≠0)=true:=av (by omega)
      simp only[tt,seval]
      rw[aq (n:=(s.a:Int)+1) (by omega) (by omega)]
      refine⟨vi op,[PB L (adv s)],⟨rfl,by rw[h0];rfl⟩,ai ?_⟩
      simp only[tt,seval,PB,adv]
      omega
     |false=>
      rw[if_neg (by rw[c];simp)] at hin
      simp only[tt,seval]
      rw[f5 i (by omega)]
      exact⟨[(9000,.str (PB L s))],none,ac rfl (al _),an _,⟨i+1,rfl,by omega,hin,rfl,rfl⟩,by simp only[bq];omega⟩
    ·have d2:decide ((op:Int)=2)=false:=au (by omega)
     simp only[tt,seval,d1,d2]
     have hk:jY L s op=iA L s 0 (5:Nat) (qW op):=by
      unfold jY
      first|rw[if_pos (by omega)]|rw[if_neg (by omega)]
      rfl
     rw[hk] at hin
     refine cZ (nK op) ?_ ?_<;>simp only[tt,seval]
     refine cS (qq L hL hT s 0 5 (qW op) (by omega) ha) ?_ ?_<;>simp only[tt,seval,PB,h10]
     cases c:iA L s 0 (5:Nat) (qW op) with
     |true=>
      rw[if_pos c] at hin
      have hlt2:=(lY c).2
      rw[<-hin]
      have h0:decide (op≠0)=true:=av (by omega)
      simp only[tt,seval]
      rw[aq (n:=(s.a:Int)+1) (by omega) (by omega)]
      refine⟨vi op,[PB L (adv s)],⟨rfl,by rw[h0];rfl⟩,ai ?_⟩
      simp only[tt,seval,PB,adv]
      omega
     |false=>
      rw[if_neg (by rw[c];simp)] at hin
      simp only[tt,seval]
      rw[f5 i (by omega)]
      exact⟨[(9000,.str (PB L s))],none,ac rfl (al _),an _,⟨i+1,rfl,by omega,hin,rfl,rfl⟩,by simp only[bq];omega⟩
  ·have:i=ops.length:=by omega
   subst this
   rw[List.drop_length] at hin
   have h0:gZ L s ops=0:=hin.symm
   rw[h0]
   simp only[tt,seval]
   exact⟨_,[PB L s],⟨rfl,rfl⟩,ai (by simp only[tt,seval,PB])⟩
end Go.Proofs.YtbodcedhmccenaaGreatDoor
set_option maxRecDepth 8000
namespace Go.Proofs.YtbodcedhmccenaaGreatDoor
open Go Go.Dv Go.Cv
open Go.Vc (D d5 d6 cM bo)
theorem Bt (op:Nat) (a b:Expr) (Ak As Bk Bs:List (List Nat)):ClT Tryz.prog 309 [vi op,.ag (aw a.row [Ak,As]),.ag (aw b.row [Bk,Bs])] [] (Ak++(As++(Bk++Bs))).flatten fun r os=>os=[]/\∃Hk Hs,r = .ag (aw (ft op a b).row [Hk,Hs]):=by
 obtain⟨k1,p1,n1,v1,q1,m1,ks1,ss1⟩:=a
 obtain⟨k2,p2,n2,v2,q2,m2,ks2,ss2⟩:=b
 simp only[ae,aw]
 refine ng ab (some (Ak++(As++(Bk++Bs)))) _ (fun ps h=>by injection h with h;subst h;first|rfl|simp) Tryz.func309 rfl (by kernel_rfl) ?_
 simp only[Tryz.f309,tt,seval]
 refine fun G=>⟨_,[],⟨rfl,G::(Ak++(As++(Bk++Bs))),[],rfl⟩,ai ?_⟩
 simp only[tt,seval,dm,ft,bC,z0,ae,aw]
 first|done|((try refine⟨by omega,?_⟩);exact aG fun x=>by (try simp only[List.flatten_append,List.count_append]);omega)
def gF (L:List Tok) (fn:FuncId) (m:PM Expr):Prop:=∀s e s',m s=some (e,s')->s.a<=L.length->Cl Tryz.prog fn [.c (.p 9000 0)] [PB L s] fun r os=>(∃Fk Fs,r = .ag (aw (e).row [Fk,Fs]))/\os=[PB L s']
set_option maxHeartbeats 2000000 in
theorem gq (L:List Tok) (hL:L.length<=1048576) (hT:∀t∈L,t.text.size<=1048576) {f:PM Expr} (okf:OkM (L:=L) f) (g:FuncId) (hg:gF L g f) (lv:Nat) (hn:(lD lv).length<=100) (ho:∀op∈lD lv,1<=op/\op<=100) (s:PS) (x:Expr) (s':PS) (h:(match f s with|none=>none|some (e,s1)=>cJ L f lv (L.length+1) e s1)=some (x,s')) (ha:s.a<=L.length):Cl Tryz.prog 264 [.c (.p 9000 0),.c (.fn g [9000] []),.c (.sl (lD lv).length ((lD lv).flatMap kH) none)] [PB L s] fun r os=>(∃Fk Fs,r = .ag (aw (x).row [Fk,Fs]))/\os=[PB L s']:=by
 split at h
 ·cases h
 rename_i e s1 he
 have ha1:=(okf _ _ _ he).2.1 ha
 have c1:=hg _ _ _ he ha
 obtain⟨k1,p1,n1,v1,q1,m1,ks1,ss1⟩:=e
 rw[ae] at c1
 refine ah ab true Tryz.func264 rfl (by kernel_rfl) ?_
 simp only[Tryz.f264,tt,seval]
 refine CallQ.intro (c1) ?_ ?_ ?_
 ·decide
 ·simp only[tt,seval,PB]
 rintro r os ⟨⟨Fk,Fs,rfl⟩,rfl⟩ hos
 simp only[tt,seval,PB,aw]
 refine dLoop.gh [] ?_
 refine dLoop0.intro (fun f' Lo p=>∃(e:Expr) (v:PS) (n:Nat) (Ek Es:List (List Nat)),cJ L f lv n e v=some (x,s')/\v.a<=L.length/\Lo=[(9000,.str (PB L v)),(7,.str (aw (e).row [Ek,Es])),(6,.str [.v (.int .i64 0),.v (.int .i64 0),.v (.bool false),.v (.int .i64 0),.v (.int .i64 0),.v (.string ByteArray.empty),.v (.string ByteArray.empty),.v (.string ByteArray.empty),.v (.slice none 0 0),.v (.slice none 0 0)])]/\p=some (Ek++Es)) (fun _ Lo _=>L.length-w5 Lo) [(9000,.str (PB L s1)),(7,.str (aw ((Expr.mk k1 p1 n1 v1 q1 m1 ks1 ss1)).row [Fk,Fs])),(6,.str [.v (.int .i64 0),.v (.int .i64 0),.v (.bool false),.v (.int .i64 0),.v (.int .i64 0),.v (.string ByteArray.empty),.v (.string ByteArray.empty),.v (.string ByteArray.empty),.v (.slice none 0 0),.v (.slice none 0 0)])] (some (Fk++Fs)) ⟨by rw[ae];exact ac rfl (ac rfl (ac rfl (al _))),PoSub.refl _,?_⟩ ?_
 ·simp only[tt,seval]
  exact⟨(Expr.mk k1 p1 n1 v1 q1 m1 ks1 ss1),s1,L.length+1,Fk,Fs,h,ha1,rfl,rfl⟩
 ·rintro g' Lo p ⟨e,v,n,Ek,Es,hm,hv,rfl,rfl⟩
  obtain⟨k1,p1,n1,v1,q1,m1,ks1,ss1⟩:=e
  rw[ae]
  simp only[tt,seval,aw]
  refine cS (rS L hL hT v (lD lv) hn ho hv) ?_ ?_<;>simp only[tt,seval,PB]
  cases n with
  |zero=>cases hm
  |succ n=>
  rw[cJ] at hm
  have hop0:gZ L v (lD lv)=cI L v lv:=rfl
  rw[hop0]
  by_cases hop:cI L v lv=0
  ·rw[if_pos hop] at hm
   injection hm with hm;injection hm with h1 h2;subst h1 h2
   have e0:decide (((cI L v lv:Nat):Int)=0)=true:=av (by omega)
   have e1:decide (¬cI L v lv=0)=false:=au (by omega)
   simp only[tt,seval,hop,fY]
   refine⟨.ag (aw ((Expr.mk k1 p1 n1 v1 q1 m1 ks1 ss1)).row [Ek,Es]),[PB L (v)],⟨⟨Ek,Es,by first|rfl|simp only[rW,aw,Val.row,lc]⟩,rfl⟩,ai ?_⟩
   simp only[tt,seval,PB,ae,aw]
   first|done|((try refine⟨by omega,?_⟩);exact aG fun x=>by (try simp only[List.flatten_append,List.count_append]);omega)
  ·rw[if_neg hop] at hm
   split at hm
   ·cases hm
   rename_i z u hz
   have hav:=aR (L:=L) (d7 hop)
   have o3:=okf _ _ _ hz
   have o3a:v.a+1<=u.a:=o3.1
   have hu:=o3.2.1 hav
   have hlt:=(d7 hop).2
   obtain⟨k2,p2,n2,v2,q2,m2,ks2,ss2⟩:=z
   have c2:=hg _ _ _ hz hav
   rw[ae] at c2
   have cb:=fun Gk Gs=>Bt (cI L v lv) (Expr.mk k1 p1 n1 v1 q1 m1 ks1 ss1) (Expr.mk k2 p2 n2 v2 q2 m2 ks2 ss2) Ek Es Gk Gs
   simp only[ae,aw] at cb
   have e0:decide (((cI L v lv:Nat):Int)=0)=false:=au (by omega)
   have e0':(((cI L v lv:Nat):Int)=0)=False:=eq_false (by omega)
   have e1:decide (¬cI L v lv=0)=true:=av (by omega)
   simp only[tt,seval,e0',e1,gC]
   refine dDrawn.intro [20] (.take 0 (.take 2 (.br 1 (.br 3 (.br 4 (.br 5 .done .nobr) .nobr) .nobr) (.br 3 (.take 1 (.br 4 (.br 5 .done .nobr) .nobr)) .nobr)))) (by kernel_rfl) ?_
   simp only[tt,seval]
   all_goals repeat' first|refine cj ?_ ?_|refine aO ?_ ?_
   all_goals
    refine CallQ.intro (c2) ?_ ?_ ?_
    ·decide
    ·simp only[tt,seval,PB]
     decide
    rintro r os ⟨⟨Gk,Gs,rfl⟩,rfl⟩ hos
    simp only[tt,seval,PB,aw]
   all_goals repeat' first|refine cj ?_ ?_|refine aO ?_ ?_
   all_goals
    refine v7 ([]) (cb Gk Gs) ?_ ?_ ?_ ?_
    ·decide
    ·simp only[tt,seval]
    ·exact fun x=>by simp only[List.flatten_append,List.flatten_nil,List.count_append,List.append_nil];omega
    rintro r os ⟨rfl,Hk,Hs,rfl⟩ hos
    simp only[tt,seval,ft,ae,aw]
   all_goals
    refine⟨[(9000,.str (PB L u)),(7,.str (aw ((ft (cI L v lv) (Expr.mk k1 p1 n1 v1 q1 m1 ks1 ss1) (Expr.mk k2 p2 n2 v2 q2 m2 ks2 ss2))).row [Hk,Hs])),(6,.str [.v (.int .i64 0),.v (.int .i64 0),.v (.bool false),.v (.int .i64 0),.v (.int .i64 0),.v (.string ByteArray.empty),.v (.string ByteArray.empty),.v (.string ByteArray.empty),.v (.slice none 0 0),.v (.slice none 0 0)])],some (Hk++Hs),by simp only[dm,PB,ft,bC,z0,ae,List.flatMap_nil,List.flatMap_cons,List.append_nil,List.length_nil,List.length_cons,aw,lc];exact ac rfl (ac rfl (ac rfl (al _))),PoSub.refl _,⟨_,u,n,Hk,Hs,hm,hu,rfl,rfl⟩,?_⟩
    show L.length-((u.a:Int)).toNat<L.length-((v.a:Int)).toNat
    omega
theorem Fv:lD 1=[1]:=rfl
theorem Fy:lD 2=[2]:=rfl
theorem Fz:lD 4=[3,4,5,6,7,8]:=rfl
theorem FA:lD 5=[9]:=rfl
theorem FB:lD 6=[10,11]:=rfl
theorem FC:lD 7=[12,13,14]:=rfl
set_option maxHeartbeats 1000000 in
theorem Bu (L:List Tok) (hL:L.length<=1048576) (hT:∀t∈L,t.text.size<=1048576) {f:Nat->PM Expr} {q:PM Query} (ok:OkM (L:=L) (f 2)) (hg:gF L 265 (f 2)):gF L 171 (stepE L f q 1):=by
 intro s x s' h ha
 have h:(match f 2 s with|none=>none|some (e,s1)=>cJ L (f 2) 1 (L.length+1) e s1)=some (x,s'):=h
 have c1:=gq L hL hT ok 265 hg 1 (by decide) (by decide) s x s' h ha
 obtain⟨k1,p1,n1,v1,q1,m1,ks1,ss1⟩:=x
 rw[ae] at c1
 simp only[Fv] at c1
 refine ah ab true Tryz.func171 rfl (by kernel_rfl) ?_
 simp only[Tryz.f171,tt,seval]
 refine dJ [6] ?_
 simp only[tt,seval,PB]
 refine fun G=>?_
 refine Call1.intro (c1) ?_ ?_ ?_
 ·decide
 ·simp only[tt,seval,PB,kH]
 rintro r os ⟨⟨Fk,Fs,rfl⟩,rfl⟩ hos
 simp only[tt,seval,PB,kH,aw]
 refine⟨.ag (aw ((Expr.mk k1 p1 n1 v1 q1 m1 ks1 ss1)).row [Fk,Fs]),[PB L (s')],⟨⟨Fk,Fs,by first|rfl|simp only[rW,aw,Val.row,lc]⟩,rfl⟩,ai ?_⟩
 simp only[tt,seval,PB,ae,aw]
 first|done|((try refine⟨by omega,?_⟩);exact aG fun x=>by (try simp only[List.flatten_append,List.count_append]);omega)
set_option maxHeartbeats 1000000 in
theorem zo (L:List Tok) (hL:L.length<=1048576) (hT:∀t∈L,t.text.size<=1048576) {f:Nat->PM Expr} {q:PM Query} (ok:OkM (L:=L) (f 3)) (hg:gF L 310 (f 3)):gF L 265 (stepE L f q 2):=by
 intro s x s' h ha
 have h:(match f 3 s with|none=>none|some (e,s1)=>cJ L (f 3) 2 (L.length+1) e s1)=some (x,s'):=h
 have c1:=gq L hL hT ok 310 hg 2 (by decide) (by decide) s x s' h ha
 obtain⟨k1,p1,n1,v1,q1,m1,ks1,ss1⟩:=x
 rw[ae] at c1
 simp only[Fy] at c1
 refine ah ab true Tryz.func265 rfl (by kernel_rfl) ?_
 simp only[Tryz.f265,tt,seval]
 refine dJ [6] ?_
 simp only[tt,seval,PB]
 refine fun G=>?_
 refine Call1.intro (c1) ?_ ?_ ?_
 ·decide
 ·simp only[tt,seval,PB,kH]
 rintro r os ⟨⟨Fk,Fs,rfl⟩,rfl⟩ hos
 simp only[tt,seval,PB,kH,aw]
 refine⟨.ag (aw ((Expr.mk k1 p1 n1 v1 q1 m1 ks1 ss1)).row [Fk,Fs]),[PB L (s')],⟨⟨Fk,Fs,by first|rfl|simp only[rW,aw,Val.row,lc]⟩,rfl⟩,ai ?_⟩
 simp only[tt,seval,PB,ae,aw]
 first|done|((try refine⟨by omega,?_⟩);exact aG fun x=>by (try simp only[List.flatten_append,List.count_append]);omega)
set_option maxHeartbeats 1000000 in
theorem zp (L:List Tok) (hL:L.length<=1048576) (hT:∀t∈L,t.text.size<=1048576) {f:Nat->PM Expr} {q:PM Query} (ok:OkM (L:=L) (f 6)) (hg:gF L 363 (f 6)):gF L 350 (stepE L f q 5):=by
 intro s x s' h ha
 have h:(match f 6 s with|none=>none|some (e,s1)=>cJ L (f 6) 5 (L.length+1) e s1)=some (x,s'):=h
 have c1:=gq L hL hT ok 363 hg 5 (by decide) (by decide) s x s' h ha
 obtain⟨k1,p1,n1,v1,q1,m1,ks1,ss1⟩:=x
 rw[ae] at c1
 simp only[FA] at c1
 refine ah ab true Tryz.func350 rfl (by kernel_rfl) ?_
 simp only[Tryz.f350,tt,seval]
 refine dJ [6] ?_
 simp only[tt,seval,PB]
 refine fun G=>?_
 refine Call1.intro (c1) ?_ ?_ ?_
 ·decide
 ·simp only[tt,seval,PB,kH]
 rintro r os ⟨⟨Fk,Fs,rfl⟩,rfl⟩ hos
 simp only[tt,seval,PB,kH,aw]
 refine⟨.ag (aw ((Expr.mk k1 p1 n1 v1 q1 m1 ks1 ss1)).row [Fk,Fs]),[PB L (s')],⟨⟨Fk,Fs,by first|rfl|simp only[rW,aw,Val.row,lc]⟩,rfl⟩,ai ?_⟩
 simp only[tt,seval,PB,ae,aw]
 first|done|((try refine⟨by omega,?_⟩);exact aG fun x=>by (try simp only[List.flatten_append,List.count_append]);omega)
set_option maxHeartbeats 1000000 in
theorem zq (L:List Tok) (hL:L.length<=1048576) (hT:∀t∈L,t.text.size<=1048576) {f:Nat->PM Expr} {q:PM Query} (ok:OkM (L:=L) (f 7)) (hg:gF L 369 (f 7)):gF L 363 (stepE L f q 6):=by
 intro s x s' h ha
 have h:(match f 7 s with|none=>none|some (e,s1)=>cJ L (f 7) 6 (L.length+1) e s1)=some (x,s'):=h
 have c1:=gq L hL hT ok 369 hg 6 (by decide) (by decide) s x s' h ha
 obtain⟨k1,p1,n1,v1,q1,m1,ks1,ss1⟩:=x
 rw[ae] at c1
 simp only[FB] at c1
 refine ah ab true Tryz.func363 rfl (by kernel_rfl) ?_
 simp only[Tryz.f363,tt,seval]
 refine dJ [6] ?_
 simp only[tt,seval,PB]
 refine fun G=>?_
 refine Call1.intro (c1) ?_ ?_ ?_
 ·decide
 ·simp only[tt,seval,PB,kH]
 rintro r os ⟨⟨Fk,Fs,rfl⟩,rfl⟩ hos
 simp only[tt,seval,PB,kH,aw]
 refine⟨.ag (aw ((Expr.mk k1 p1 n1 v1 q1 m1 ks1 ss1)).row [Fk,Fs]),[PB L (s')],⟨⟨Fk,Fs,by first|rfl|simp only[rW,aw,Val.row,lc]⟩,rfl⟩,ai ?_⟩
 simp only[tt,seval,PB,ae,aw]
 first|done|((try refine⟨by omega,?_⟩);exact aG fun x=>by (try simp only[List.flatten_append,List.count_append]);omega)
set_option maxHeartbeats 1000000 in
theorem wA (L:List Tok) (hL:L.length<=1048576) (hT:∀t∈L,t.text.size<=1048576) {f:Nat->PM Expr} {q:PM Query} (ok:OkM (L:=L) (f 8)) (hg:gF L 371 (f 8)):gF L 369 (stepE L f q 7):=by
 intro s x s' h ha
 have h:(match f 8 s with|none=>none|some (e,s1)=>cJ L (f 8) 7 (L.length+1) e s1)=some (x,s'):=h
 have c1:=gq L hL hT ok 371 hg 7 (by decide) (by decide) s x s' h ha
 obtain⟨k1,p1,n1,v1,q1,m1,ks1,ss1⟩:=x
 rw[ae] at c1
 simp only[FC] at c1
 refine ah ab true Tryz.func369 rfl (by kernel_rfl) ?_
 simp only[Tryz.f369,tt,seval]
 refine dJ [6] ?_
 simp only[tt,seval,PB]
 refine fun G=>?_
 refine Call1.intro (c1) ?_ ?_ ?_
 ·decide
 ·simp only[tt,seval,PB,kH]
 rintro r os ⟨⟨Fk,Fs,rfl⟩,rfl⟩ hos
 simp only[tt,seval,PB,kH,aw]
 refine⟨.ag (aw ((Expr.mk k1 p1 n1 v1 q1 m1 ks1 ss1)).row [Fk,Fs]),[PB L (s')],⟨⟨Fk,Fs,by first|rfl|simp only[rW,aw,Val.row,lc]⟩,rfl⟩,ai ?_⟩
 simp only[tt,seval,PB,ae,aw]
 first|done|((try refine⟨by omega,?_⟩);exact aG fun x=>by (try simp only[List.flatten_append,List.count_append]);omega)
set_option maxHeartbeats 1000000 in
theorem zr (L:List Tok) (hL:L.length<=1048576) (hT:∀t∈L,t.text.size<=1048576) {f:Nat->PM Expr} {q:PM Query} (hs:gF L 310 (f 3)) (hg:gF L 332 (f 4)):gF L 310 (stepE L f q 3):=by
 intro s x s' h ha
 have h:(if ap L s 15=true then (match f 3 (adv s) with|none=>none|some (e,s1)=>some (nD 15 e,s1)) else f 4 s)=some (x,s'):=h
 refine ah ab true Tryz.func310 rfl (by kernel_rfl) ?_
 simp only[Tryz.f310,tt,seval]
 refine cS (bh L hL hT s 15 ⟨#[78,79,84]⟩ (by kernel_rfl) ha) ?_ ?_<;>simp only[tt,seval,PB]
 cases c:ap L s 15 with
 |true=>
  rw[if_pos c] at h
  split at h
  ·cases h
  rename_i e s1 he
  injection h with h;injection h with h1 h2;subst h1 h2
  obtain⟨k1,p1,n1,v1,q1,m1,ks1,ss1⟩:=e
  have c1:=hs _ _ _ he (aR (ao c))
  rw[ae] at c1
  simp only[tt,seval,gC]
  refine CallQ.intro (c1) ?_ ?_ ?_
  ·decide
  ·simp only[tt,seval,PB]
  rintro r os ⟨⟨Fk,Fs,rfl⟩,rfl⟩ hos
  simp only[tt,seval,PB,aw]
  refine fun G=>?_
  refine⟨.ag (aw (nD 15 (Expr.mk k1 p1 n1 v1 q1 m1 ks1 ss1)).row [G::(Fk++Fs),[]]),[PB L s1],⟨⟨_,_,rfl⟩,rfl⟩,ai ?_⟩
  simp only[tt,seval,dm,PB,nD,bC,z0,ae,aw]
  first|done|((try refine⟨by omega,?_⟩);exact aG fun x=>by (try simp only[List.flatten_append,List.count_append]);omega)
 |false=>
  rw[if_neg (by rw[c];simp)] at h
  obtain⟨k1,p1,n1,v1,q1,m1,ks1,ss1⟩:=x
  have c1:=hg _ _ _ h ha
  rw[ae] at c1
  simp only[tt,seval,fY]
  refine CallQ.intro (c1) ?_ ?_ ?_
  ·decide
  ·simp only[tt,seval,PB]
  rintro r os ⟨⟨Fk,Fs,rfl⟩,rfl⟩ hos
  simp only[tt,seval,PB,aw]
  refine⟨.ag (aw ((Expr.mk k1 p1 n1 v1 q1 m1 ks1 ss1)).row [Fk,Fs]),[PB L (s')],⟨⟨Fk,Fs,by first|rfl|simp only[rW,aw,Val.row,lc]⟩,rfl⟩,ai ?_⟩
  simp only[tt,seval,PB,ae,aw]
  first|done|((try refine⟨by omega,?_⟩);exact aG fun x=>by (try simp only[List.flatten_append,List.count_append]);omega)
set_option maxHeartbeats 1000000 in
theorem zt (L:List Tok) (hL:L.length<=1048576) (hT:∀t∈L,t.text.size<=1048576) {f:Nat->PM Expr} {q:PM Query} (hs:gF L 371 (f 8)) (hg:gF L 372 (f 9)):gF L 371 (stepE L f q 8):=by
 intro s x s' h ha
 have h:(if aN L s 45=true then (match f 8 (adv s) with|none=>none|some (e,s1)=>some (nD 16 e,s1)) else f 9 s)=some (x,s'):=h
 refine ah ab true Tryz.func371 rfl (by kernel_rfl) ?_
 simp only[Tryz.f371,tt,seval]
 refine cS (cD L hL hT s 45 ha) ?_ ?_<;>simp only[tt,seval,PB]
 cases c:aN L s 45 with
 |true=>
  rw[if_pos c] at h
  split at h
  ·cases h
  rename_i e s1 he
  injection h with h;injection h with h1 h2;subst h1 h2
  obtain⟨k1,p1,n1,v1,q1,m1,ks1,ss1⟩:=e
  have c1:=hs _ _ _ he (aR (ax c))
  rw[ae] at c1
  simp only[tt,seval,gC]
  refine CallQ.intro (c1) ?_ ?_ ?_
  ·decide
  ·simp only[tt,seval,PB]
  rintro r os ⟨⟨Fk,Fs,rfl⟩,rfl⟩ hos
  simp only[tt,seval,PB,aw]
  refine fun G=>?_
  refine⟨.ag (aw (nD 16 (Expr.mk k1 p1 n1 v1 q1 m1 ks1 ss1)).row [G::(Fk++Fs),[]]),[PB L s1],⟨⟨_,_,rfl⟩,rfl⟩,ai ?_⟩
  simp only[tt,seval,dm,PB,nD,bC,z0,ae,aw]
  first|done|((try refine⟨by omega,?_⟩);exact aG fun x=>by (try simp only[List.flatten_append,List.count_append]);omega)
 |false=>
  rw[if_neg (by rw[c];simp)] at h
  obtain⟨k1,p1,n1,v1,q1,m1,ks1,ss1⟩:=x
  have c1:=hg _ _ _ h ha
  rw[ae] at c1
  simp only[tt,seval,fY]
  refine CallQ.intro (c1) ?_ ?_ ?_
  ·decide
  ·simp only[tt,seval,PB]
  rintro r os ⟨⟨Fk,Fs,rfl⟩,rfl⟩ hos
  simp only[tt,seval,PB,aw]
  refine⟨.ag (aw ((Expr.mk k1 p1 n1 v1 q1 m1 ks1 ss1)).row [Fk,Fs]),[PB L (s')],⟨⟨Fk,Fs,by first|rfl|simp only[rW,aw,Val.row,lc]⟩,rfl⟩,ai ?_⟩
  simp only[tt,seval,PB,ae,aw]
  first|done|((try refine⟨by omega,?_⟩);exact aG fun x=>by (try simp only[List.flatten_append,List.count_append]);omega)
def E6 (L:List Tok) (fn:FuncId) (m:PM Query):Prop:=∀s e s',m s=some (e,s')->s.a<=L.length->Cl Tryz.prog fn [.c (.p 9000 0)] [PB L s] fun r os=>(∃Fi Ff Fw Fo,r = .ag (aw (e).row [Fi,Ff,Fw,Fo]))/\os=[PB L s']
theorem qt (v:Val):Cl Tryz.prog 373 [.ag (ar v.row)] [] fun r _=>r = .ag (aw (dD v).row [[],[]]):=by
 refine ah ab false Tryz.func373 rfl (by kernel_rfl) ?_
 simp only[Tryz.f373,tt,seval]
 simp only[tt,seval,Val.row]
 refine⟨.ag (aw (dD v).row [[],[]]),[],rfl,ai ?_⟩
 simp only[tt,seval,dm,dD,z0,ae,aw]
set_option maxHeartbeats 2000000 in
theorem rT (L:List Tok) (hL:L.length<=1048576) (hT:∀t∈L,t.text.size<=1048576) {f:Nat->PM Expr} (ok:OkM (L:=L) (f 1)) (hg:gF L 171 (f 1)) (s:PS) (x:List Expr) (s':PS) (h:jb L f s=some (x,s')) (ha:s.a<=L.length):Cl Tryz.prog 223 [.c (.p 9000 0)] [PB L s] fun r os=>(x.length<=1048580/\∃F,r = .c (.ow 52 x.length (x.flatMap Expr.row) (some F)))/\os=[PB L s']:=by
 unfold jb at h
 split at h
 ·cases h
 rename_i e s1 he
 have ha1:=(ok _ _ _ he).2.1 ha
 have c1:=hg _ _ _ he ha
 obtain⟨k1,p1,n1,v1,q1,m1,ks1,ss1⟩:=e
 rw[ae] at c1
 refine ah ab true Tryz.func223 rfl (by kernel_rfl) ?_
 simp only[Tryz.f223,tt,seval]
 refine CallQ.intro (c1) ?_ ?_ ?_
 ·decide
 ·simp only[tt,seval,PB]
 rintro r os ⟨⟨Fk,Fs,rfl⟩,rfl⟩ hos
 simp only[tt,seval,PB,aw]
 refine dLoop.gh [.ren 6 13] ⟨by decide,by decide,?_⟩
 refine dLoop0.intro (fun f' Lo p=>∃(l:List Expr) (v:PS) (n:Nat) (Fl Pl:List (List Nat)),f' 3 = .c (.s 13 l.length)/\dt L (f 1) n l v=some (x,s')/\v.a<=L.length/\l.length<=v.a+1/\Sb Fl.flatten Pl.flatten/\Lo=[(9000,.str (PB L v)),(13,.arr 52 (l).length ((l).flatMap Expr.row) (some (Fl)))]/\p=some Pl) (fun _ Lo _=>L.length-w5 Lo) [(9000,.str (PB L s1)),(13,.arr 52 ([(Expr.mk k1 p1 n1 v1 q1 m1 ks1 ss1)]).length (([(Expr.mk k1 p1 n1 v1 q1 m1 ks1 ss1)]).flatMap Expr.row) (some (Fk++Fs)))] (some (Fk++Fs)) ⟨by simp only[PB,ae,List.flatMap_nil,List.flatMap_cons,List.append_nil,List.length_nil,List.length_cons];exact ac rfl (ac rfl (al _)),PoSub.refl _,?_⟩ ?_
 ·simp only[tt,seval]
  exact⟨[(Expr.mk k1 p1 n1 v1 q1 m1 ks1 ss1)],s1,L.length+1,Fk++Fs,Fk++Fs,rfl,h,ha1,by simp,Sb.refl _,rfl,rfl⟩
 ·rintro g' Lo p ⟨l,v,n,Fl,Pl,h3,hm,hv,hml,hsb,rfl,rfl⟩
  simp only[tt,seval] at h3
  simp only[tt,seval]
  refine cS (cD L hL hT v 44 hv) ?_ ?_<;>simp only[tt,seval,PB,h3]
  cases n with
  |zero=>cases hm
  |succ n=>
  rw[dt] at hm
  cases c44:aN L v 44 with
  |true=>
   rw[if_pos c44] at hm
   split at hm
   ·cases hm
   rename_i z u hz
   have hav:=aR (L:=L) (ax c44)
   have o3:=ok _ _ _ hz
   have o3a:v.a+1<=u.a:=o3.1
   have hu:=o3.2.1 hav
   have hlt:=(ax c44).2
   obtain⟨k2,p2,n2,v2,q2,m2,ks2,ss2⟩:=z
   have c2:=hg _ _ _ hz hav
   rw[ae] at c2
   simp only[tt,seval,gC]
   refine CallQ.intro (c2) ?_ ?_ ?_
   ·decide
   ·simp only[tt,seval,PB]
   rintro r os ⟨⟨Gk,Gs,rfl⟩,rfl⟩ hos
   simp only[tt,seval,PB,aw]
   refine⟨by kernel_rfl,⟨by simp only[maxLen];omega,by omega⟩,?_⟩
   refine⟨[(9000,.str (PB L u)),(13,.arr 52 ((l++[(Expr.mk k2 p2 n2 v2 q2 m2 ks2 ss2)])).length (((l++[(Expr.mk k2 p2 n2 v2 q2 m2 ks2 ss2)])).flatMap Expr.row) (some (Fl++(Gk++Gs))))],some (Pl++(Gk++Gs)),by simp only[PB,ae,List.flatMap_nil,List.flatMap_cons,List.append_nil,List.length_nil,List.length_cons,List.flatMap_append,aB];exact ac rfl (ac rfl (al _)),PoSub.refl _,⟨l++[(Expr.mk k2 p2 n2 v2 q2 m2 ks2 ss2)],u,n,_,_,by simp,hm,hu,by simp;omega,by simp only[List.flatten_append];exact hsb.append (Sb.refl _),rfl,rfl⟩,?_⟩
   show L.length-((u.a:Int)).toNat<L.length-((v.a:Int)).toNat
   omega
  |false=>
   rw[if_neg (by rw[c44];simp)] at hm
   injection hm with hm;injection hm with e1 e2;subst e1 e2
   simp only[tt,seval,fY]
   refine⟨.c (.ow 52 l.length (l.flatMap Expr.row) (some Fl)),[PB L v],⟨⟨by omega,Fl,rfl⟩,rfl⟩,ai ?_⟩
   simp only[tt,seval,PB]
   exact hsb
set_option maxHeartbeats 4000000 in
theorem Bv (L:List Tok) (hL:L.length<=1048576) (hT:∀t∈L,t.text.size<=1048576) {f:Nat->PM Expr} {q:PM Query} (ok:∀lv,OkM (L:=L) (f lv)) (okq:OkM (L:=L) q) (hor:gF L 171 (f 1)) (hq:E6 L 101 q) (e:Expr) (not:Bool) (Ek Es:List (List Nat)) (s:PS) (x:Expr) (s':PS) (h:ug L f q e not s=some (x,s')) (ha:s.a<=L.length):ClT Tryz.prog 351 [.c (.p 9000 0),.ag (aw e.row [Ek,Es]),vb not] [PB L s] (Ek++Es).flatten fun r os=>(∃Hk Hs,r = .ag (aw x.row [Hk,Hs]))/\os=[PB L s']:=by
 obtain⟨k1,p1,n1,v1,q1,m1,ks1,ss1⟩:=e
 unfold ug at h
 simp only at h
 simp only[ae,aw]
 refine ng ab (some (Ek++Es)) _ (fun ps h=>by injection h with h;subst h;first|rfl|simp) Tryz.func351 rfl (by kernel_rfl) ?_
 simp only[Tryz.f351,tt,seval]
 refine cS (db L hL hT s 40 ha) ?_ ?_<;>simp only[tt,seval,PB]
 have o1:Ok L s (must (aN L s 40) s):=Ok.must fun h=>ax h
 have ha1:=o1.2.1 ha
 generalize must (aN L s 40) s=u at *
 refine cS (qr L hL hT u 1 ⟨#[83,69,76,69,67,84]⟩ (by kernel_rfl) ha1) ?_ ?_<;>simp only[tt,seval,PB]
 cases c1:ap L u 1 with
 |true=>
  rw[if_pos c1] at h
  split at h
  ·cases h
  rename_i y t hy
  injection h with h;injection h with h1 h2;subst h1 h2
  have ht:=(okq _ _ _ hy).2.1 ha1
  obtain⟨d,its,frs,whs,ods,lim⟩:=y
  have cq:=hq _ _ _ hy ha1
  rw[ay] at cq
  simp only[tt,seval]
  refine CallQ.intro (cq) ?_ ?_ ?_
  ·decide
  ·simp only[tt,seval,PB]
  rintro r os ⟨⟨Fi,Ff,Fw,Fo,rfl⟩,rfl⟩ hos
  simp only[tt,seval,PB,aw]
  refine cS (db L hL hT t 41 ht) ?_ ?_<;>simp only[tt,seval,PB]
  refine fun G0=>?_
  refine fun G1=>?_
  refine⟨.ag (aw (cP 8 not [(Expr.mk k1 p1 n1 v1 q1 m1 ks1 ss1)] [(Query.mk d its frs whs ods lim)]).row [G0::(Ek++Es),G1::(Fi++(Ff++(Fw++Fo)))]),[PB L (must (aN L t 41) t)],⟨⟨_,_,rfl⟩,rfl⟩,ai ?_⟩
  simp only[tt,seval,dm,PB,cP,bC,z0,ae,ay,aw]
  first|done|((try refine⟨by omega,?_⟩);exact aG fun x=>by (try simp only[List.flatten_append,List.flatten_cons,List.count_append]);omega)
 |false=>
  rw[if_neg (by rw[c1];simp)] at h
  split at h
  ·cases h
  rename_i l t hl
  injection h with h;injection h with h1 h2;subst h1 h2
  have ht:=(OkM.ors ok _ _ _ hl).2.1 ha1
  have cl:=rT L hL hT (ok 1) hor _ _ _ hl ha1
  simp only[tt,seval]
  refine dDrawn.intro [24] (.take 0 (.take 2 (.br 1 (.br 3 (.br 4 (.take 5 (.br 6 .done .nobr)) .nobr) .nobr) (.br 3 (.take 1 (.br 4 (.take 5 (.br 6 .done .nobr)) .nobr)) .nobr)))) (by kernel_rfl) ?_
  simp only[tt,seval]
  all_goals repeat' first|refine cj ?_ ?_|refine aO ?_ ?_
  all_goals
   refine CallQ.intro (cl) ?_ ?_ ?_
   ·decide
   ·simp only[tt,seval,PB]
    decide
   rintro r os ⟨⟨hlen,Fl,rfl⟩,rfl⟩ hos
   simp only[tt,seval,PB]
  all_goals repeat' first|refine gE ?_ ?_|refine cK ?_ ?_|refine cL ?_ ?_
  all_goals
   refine⟨by kernel_rfl,bT aJ l,⟨by simp only[maxLen];omega,by omega⟩,?_⟩
  all_goals
   refine cS (db L hL hT t 41 ht) ?_ ?_<;>simp only[tt,seval,PB]
   refine fun G0=>?_
   refine⟨.ag (aw (cP 7 not ((Expr.mk k1 p1 n1 v1 q1 m1 ks1 ss1)::l) []).row [G0::(Ek++Es++Fl),[]]),[PB L (must (aN L t 41) t)],⟨⟨_,_,rfl⟩,rfl⟩,ai ?_⟩
   simp only[tt,seval,dm,PB,cP,bC,z0,ae,aw]
   first|done|((try refine⟨by omega,?_⟩);exact aG fun x=>by (try simp only[List.flatten_append,List.count_append]);omega)
theorem vd (k:Int):Cl Tryz.prog 374 [vi k] [] fun r _=>r = .ag (ar (Val.mk 1 k z0).row):=by
 refine ah ab false Tryz.func374 rfl (by kernel_rfl) ?_
 simp only[Tryz.f374,tt,seval]
 refine⟨.ag (ar (Val.mk 1 k z0).row),[],rfl,ai ?_⟩
 simp only[tt,seval,Val.row,z0,dm]
theorem td (s:ByteArray):Cl Tryz.prog 375 [vs s] [] fun r _=>r = .ag (ar (Val.mk 2 0 s).row):=by
 refine ah ab false Tryz.func375 rfl (by kernel_rfl) ?_
 simp only[Tryz.f375,tt,seval]
 refine⟨.ag (ar (Val.mk 2 0 s).row),[],rfl,ai ?_⟩
 simp only[tt,seval,Val.row]
theorem tf:Cl Tryz.prog 376 [vb true] [] fun r _=>r = .ag (ar (Val.mk 3 1 z0).row):=by
 refine ah ab false Tryz.func376 rfl (by kernel_rfl) ?_
 simp only[Tryz.f376,tt,seval]
 refine⟨.ag (ar (Val.mk 3 1 z0).row),[],rfl,ai ?_⟩
 simp only[tt,seval,Val.row,z0,dm]
theorem tg:Cl Tryz.prog 376 [vb false] [] fun r _=>r = .ag (ar (Val.mk 3 0 z0).row):=by
 refine ah ab false Tryz.func376 rfl (by kernel_rfl) ?_
 simp only[Tryz.f376,tt,seval]
 refine⟨.ag (ar (Val.mk 3 0 z0).row),[],rfl,ai ?_⟩
 simp only[tt,seval,Val.row,z0,dm]
set_option maxHeartbeats 4000000 in
theorem wC (L:List Tok) (hL:L.length<=1048576) (hT:∀t∈L,t.text.size<=1048576) {f:Nat->PM Expr} {q:PM Query} (ok1:OkM (L:=L) (f 1)) (okq:OkM (L:=L) q) (hf:gF L 171 (f 1)) (hq:E6 L 101 q):gF L 372 (fa L f q):=by
 intro s e s' h ha
 have hts:=jH hL hT s
 unfold fa at h
 simp only at h
 refine ah ab true Tryz.func372 rfl (by kernel_rfl) ?_
 simp only[Tryz.f372,tt,seval]
 refine cS (ju L hL hT s 3 ha) ?_ ?_<;>simp only[tt,seval,PB]
 cases c3:jz L s 3 with
 |true=>
  rw[if_pos c3] at h
  injection h with h;injection h with h1 h2;subst h1 h2
  simp only[tt,seval]
  refine cS (j4 L hL hT s ha) ?_ ?_<;>simp only[tt,seval,PB]
  have hn:mNum L s=(jD (bG L s),adv s):=by unfold mNum;rw[jI c3]
  rw[hn]
  refine cZ (vd (jD (bG L s))) ?_ ?_<;>simp only[tt,seval,Val.row]
  have cl:=qt ⟨1,jD (bG L s),z0⟩
  refine cZ (cl) ?_ ?_<;>simp only[tt,seval,dm,dD,z0,ae,aw,Val.row]
  refine⟨.ag (aw (dD ⟨1,jD (bG L s),z0⟩).row [[],[]]),[PB L (adv s)],⟨⟨[],[],rfl⟩,rfl⟩,ai ?_⟩
  simp only[tt,seval,PB,dD,z0,ae,aw]
  first|done|((try refine⟨by omega,?_⟩);exact aG fun x=>by (try simp only[List.count_nil]);omega)
 |false=>
 rw[if_neg (by rw[c3];simp)] at h
 simp only[tt,seval]
 refine cS (ju L hL hT s 4 ha) ?_ ?_<;>simp only[tt,seval,PB]
 cases c4:jz L s 4 with
 |true=>
  rw[if_pos c4] at h
  injection h with h;injection h with h1 h2;subst h1 h2
  simp only[tt,seval]
  refine cS (cE L hL hT s 4 ha) ?_ ?_<;>simp only[tt,seval,PB]
  rw[jI c4]
  refine cZ (td (bG L s)) ?_ ?_<;>simp only[tt,seval,Val.row]
  have cl:=qt ⟨2,0,bG L s⟩
  refine cZ (cl) ?_ ?_<;>simp only[tt,seval,dm,dD,z0,ae,aw,Val.row]
  refine⟨.ag (aw (dD ⟨2,0,bG L s⟩).row [[],[]]),[PB L (adv s)],⟨⟨[],[],rfl⟩,rfl⟩,ai ?_⟩
  simp only[tt,seval,PB,dD,z0,ae,aw]
  first|done|((try refine⟨by omega,?_⟩);exact aG fun x=>by (try simp only[List.count_nil]);omega)
 |false=>
 rw[if_neg (by rw[c4];simp)] at h
 simp only[tt,seval]
 refine cS (bh L hL hT s 20 ⟨#[78,85,76,76]⟩ (by kernel_rfl) ha) ?_ ?_<;>simp only[tt,seval,PB]
 cases c20:ap L s 20 with
 |true=>
  rw[if_pos c20] at h
  injection h with h;injection h with h1 h2;subst h1 h2
  simp only[tt,seval,gC]
  have cl:=qt bC
  refine cZ (cl) ?_ ?_<;>simp only[tt,seval,dm,dD,bC,z0,ae,aw,Val.row]
  refine⟨.ag (aw (dD bC).row [[],[]]),[PB L (adv s)],⟨⟨[],[],rfl⟩,rfl⟩,ai ?_⟩
  simp only[tt,seval,PB,dD,bC,z0,ae,aw]
  first|done|((try refine⟨by omega,?_⟩);exact aG fun x=>by (try simp only[List.count_nil]);omega)
 |false=>
 rw[if_neg (by rw[c20];simp)] at h
 simp only[tt,seval,fY]
 refine cS (bh L hL hT s 21 ⟨#[84,82,85,69]⟩ (by kernel_rfl) ha) ?_ ?_<;>simp only[tt,seval,PB]
 cases c21:ap L s 21 with
 |true=>
  rw[if_pos c21] at h
  injection h with h;injection h with h1 h2;subst h1 h2
  simp only[tt,seval,gC]
  refine cZ (tf) ?_ ?_<;>simp only[tt,seval,Val.row]
  have cl:=qt ⟨3,1,z0⟩
  refine cZ (cl) ?_ ?_<;>simp only[tt,seval,dm,dD,z0,ae,aw,Val.row]
  refine⟨.ag (aw (dD ⟨3,1,z0⟩).row [[],[]]),[PB L (adv s)],⟨⟨[],[],rfl⟩,rfl⟩,ai ?_⟩
  simp only[tt,seval,PB,dD,z0,ae,aw]
  first|done|((try refine⟨by omega,?_⟩);exact aG fun x=>by (try simp only[List.count_nil]);omega)
 |false=>
 rw[if_neg (by rw[c21];simp)] at h
 simp only[tt,seval,fY]
 refine cS (bh L hL hT s 22 ⟨#[70,65,76,83,69]⟩ (by kernel_rfl) ha) ?_ ?_<;>simp only[tt,seval,PB]
 cases c22:ap L s 22 with
 |true=>
  rw[if_pos c22] at h
  injection h with h;injection h with h1 h2;subst h1 h2
  simp only[tt,seval,gC]
  refine cZ (tg) ?_ ?_<;>simp only[tt,seval,Val.row]
  have cl:=qt ⟨3,0,z0⟩
  refine cZ (cl) ?_ ?_<;>simp only[tt,seval,dm,dD,z0,ae,aw,Val.row]
  refine⟨.ag (aw (dD ⟨3,0,z0⟩).row [[],[]]),[PB L (adv s)],⟨⟨[],[],rfl⟩,rfl⟩,ai ?_⟩
  simp only[tt,seval,PB,dD,z0,ae,aw]
  first|done|((try refine⟨by omega,?_⟩);exact aG fun x=>by (try simp only[List.count_nil]);omega)
 |false=>
 rw[if_neg (by rw[c22];simp)] at h
 simp only[tt,seval,fY]
 refine cS (ju L hL hT s 2 ha) ?_ ?_<;>simp only[tt,seval,PB]
 cases c2:jz L s 2 with
 |true=>
  rw[if_pos c2] at h
  simp only[tt,seval]
  refine cS (cE L hL hT s 2 ha) ?_ ?_<;>simp only[tt,seval,PB]
  rw[jI c2]
  simp only[seval]
  have ha1:=aR (L:=L) (gu c2)
  refine cS (cD L hL hT (adv s) 46 ha1) ?_ ?_<;>simp only[tt,seval,PB]
  cases cd:aN L (adv s) 46 with
  |true=>
   rw[if_pos cd] at h
   injection h with h;injection h with h1 h2;subst h1 h2
   simp only[tt,seval,gC]
   refine cS (cE L hL hT (adv (adv s)) 2 (aR (ax cd))) ?_ ?_<;>simp only[tt,seval,PB]
   refine⟨.ag (aw (mG (bG L s) (mText L 2 (adv (adv s))).1).row [[],[]]),[PB L ((mText L 2 (adv (adv s))).2)],⟨⟨[],[],rfl⟩,rfl⟩,ai ?_⟩
   simp only[tt,seval,dm,PB,mG,bC,ae,aw]
   first|done|((try refine⟨by omega,?_⟩);exact aG fun x=>by (try simp only[List.count_nil]);omega)
  |false=>
   rw[if_neg (by rw[cd];simp)] at h
   injection h with h;injection h with h1 h2;subst h1 h2
   simp only[tt,seval,fY]
   refine⟨.ag (aw (mG z0 (bG L s)).row [[],[]]),[PB L (adv s)],⟨⟨[],[],rfl⟩,rfl⟩,ai ?_⟩
   simp only[tt,seval,dm,PB,mG,bC,z0,ae,aw]
   first|done|((try refine⟨by omega,?_⟩);exact aG fun x=>by (try simp only[List.count_nil]);omega)
 |false=>
 rw[if_neg (by rw[c2];simp)] at h
 simp only[tt,seval]
 refine cS (cD L hL hT s 40 ha) ?_ ?_<;>simp only[tt,seval,PB]
 cases cl:aN L s 40 with
 |true=>
  rw[if_pos cl] at h
  have ha1:=aR (L:=L) (ax cl)
  split at h
  ·cases h
  rename_i x t hx
  injection h with h;injection h with h1 h2;subst h1 h2
  have o2:=ok1 _ _ _ hx
  obtain⟨k1,p1,n1,v1,q1,m1,ks1,ss1⟩:=x
  have c:=hf _ _ _ hx ha1
  rw[ae] at c
  simp only[tt,seval,gC]
  refine CallQ.intro (c) ?_ ?_ ?_
  ·decide
  ·simp only[tt,seval,PB]
  rintro r os ⟨⟨Fk,Fs,rfl⟩,rfl⟩ hos
  simp only[tt,seval,PB,aw]
  refine cS (db L hL hT t 41 (o2.2.1 ha1)) ?_ ?_<;>simp only[tt,seval,PB]
  refine⟨.ag (aw ((Expr.mk k1 p1 n1 v1 q1 m1 ks1 ss1)).row [Fk,Fs]),[PB L (must (aN L t 41) t)],⟨⟨Fk,Fs,by first|rfl|simp only[rW,aw,Val.row,lc]⟩,rfl⟩,ai ?_⟩
  simp only[tt,seval,PB,ae,aw]
  first|done|((try refine⟨by omega,?_⟩);exact aG fun x=>by (try simp only[List.flatten_append,List.count_append]);omega)
 |false=>
 rw[if_neg (by rw[cl];simp)] at h
 simp only[tt,seval,fY]
 refine cS (bh L hL hT s 19 ⟨#[69,88,73,83,84,83]⟩ (by kernel_rfl) ha) ?_ ?_<;>simp only[tt,seval,PB]
 cases c19:ap L s 19 with
 |true=>
  rw[if_pos c19] at h
  simp only[tt,seval,gC]
  have ha1:=aR (L:=L) (ao c19)
  have o1:Ok L (adv s) (must (aN L (adv s) 40) (adv s)):=Ok.must fun h=>ax h
  refine cS (db L hL hT (adv s) 40 ha1) ?_ ?_<;>simp only[tt,seval,PB]
  split at h
  ·cases h
  rename_i x t hx
  injection h with h;injection h with h1 h2;subst h1 h2
  have o2:=okq _ _ _ hx
  obtain⟨d,its,frs,whs,ods,lim⟩:=x
  have c:=hq _ _ _ hx (o1.2.1 ha1)
  rw[ay] at c
  refine CallQ.intro (c) ?_ ?_ ?_
  ·decide
  ·simp only[tt,seval,PB]
  rintro r os ⟨⟨Fi,Ff,Fw,Fo,rfl⟩,rfl⟩ hos
  simp only[tt,seval,PB,aw]
  refine cS (db L hL hT t 41 (o2.2.1 (o1.2.1 ha1))) ?_ ?_<;>simp only[tt,seval,PB]
  refine fun G0=>?_
  refine⟨.ag (aw (cP 9 false [] [(Query.mk d its frs whs ods lim)]).row [[],G0::(Fi++(Ff++(Fw++Fo)))]),[PB L (must (aN L t 41) t)],⟨⟨_,_,rfl⟩,rfl⟩,ai ?_⟩
  simp only[tt,seval,dm,PB,cP,bC,z0,ae,ay,aw]
  first|done|((try refine⟨by omega,?_⟩);exact aG fun x=>by (try simp only[List.flatten_append,List.count_append]);omega)
 |false=>
  rw[if_neg (by rw[c19];simp)] at h
  injection h with h;injection h with h1 h2;subst h1 h2
  simp only[tt,seval,fY,fl]
  refine⟨.ag (aw (zExpr).row [[],[]]),[PB L (fl s)],⟨⟨[],[],rfl⟩,rfl⟩,ai ?_⟩
  simp only[tt,seval,fl,dm,PB,zExpr,bC,z0,ae,aw]
  first|done|((try refine⟨by omega,?_⟩);exact aG fun x=>by (try simp only[List.count_nil]);omega)
end Go.Proofs.YtbodcedhmccenaaGreatDoor
