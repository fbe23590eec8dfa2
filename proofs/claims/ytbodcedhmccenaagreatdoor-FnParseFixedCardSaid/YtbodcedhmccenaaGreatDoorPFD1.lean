/-
  The program's parser, first half.
  Conditions: none.
-/
import Derived.Test.YtbodcedhmccenaaGreatDoorPFC1
set_option linter.unusedVariables false
set_option linter.unusedSimpArgs false
set_option linter.unusedSectionVars false
set_option maxRecDepth 8000
namespace Go.Proofs.YtbodcedhmccenaaGreatDoor
open Go Go.Dv
open Go.Vc (D dg dh cX bk)
theorem rv (L:List Tok) (hL:L.length<=1048576) (hT:∀t∈L,t.text.size<=1048576) (s:PS) (k:Nat) (kind:Nat) (x:ByteArray) (hk:k<=100) (ha:s.a<=L.length):Cl Tryz.prog 220 [.c (.p 9000 0),vi k,vi kind,vs x] [PB L s] fun r os=>r=vb (jp L s k kind x)/\os=[PB L s]:=by
 obtain⟨a,b⟩:=s
 have ha:a<=L.length:=ha
 have hw:IntKind.i64.wrap ((a:Int)+k)=((a+k:Nat):Int):=ax (n:=(a:Int)+k) aa aa
 cases b with
 |true=>
  have e:jp L ⟨a,true⟩ k kind x=false:=rfl
  rw[e]
  refine ai ac false Tryz.func220 rfl ae ?_
  simp only[Tryz.f220,tt,seval]
  simp only[tt,seval,PB,hw]
  refine⟨_,[PB L ⟨a,true⟩],⟨rfl,rfl⟩,am ?_⟩
  simp only[tt,seval,PB]
 |false=>
  refine ai ac false Tryz.func220 rfl ae ?_
  simp only[Tryz.f220,tt,seval]
  simp only[tt,seval,PB,hw]
  refine fun _=>?_
  by_cases hlt:a+k<L.length
  ·have h1:decide (((a+k:Nat):Int)<(L.length:Int))=true:=az aa
   have hx:L[a+k]?=some L[a+k]:=aD hlt
   have e:jp L ⟨a,false⟩ k kind x=(decide (L[a+k].kind=kind)&&decide (L[a+k].text=x)):=by
    unfold jp gK
    simp only[Bool.false_eq_true,if_false,hx]
   have i0:((0:Int)<=((a+k:Nat):Int))=True:=eq_true aa
   have iL:(((a+k:Nat):Int)<(L.length:Int))=True:=eq_true aa
   have iT:(a+k<L.length)=True:=eq_true hlt
   rw[e]
   generalize L[a+k]=tk at *
   generalize a+k=j at *
   simp only[tt,seval,cT hx cY,i0,iL,Tok.row]
   cases hk1:decide (tk.kind=(kind:Int)) with
   |true=>
    simp only[tt,seval,cT hx cY,i0,iL,Tok.row]
    trace_state
    refine⟨_,[PB L ⟨a,false⟩],⟨rfl,rfl⟩,am ?_⟩
    simp only[tt,seval,PB]
   |false=>
    simp only[tt,seval]
    trace_state
    refine⟨_,[PB L ⟨a,false⟩],⟨rfl,rfl⟩,am ?_⟩
    simp only[tt,seval,PB]
  ·have h1:decide (((a+k:Nat):Int)<(L.length:Int))=false:=au aa
   have e:jp L ⟨a,false⟩ k kind x=false:=by
    unfold jp gK
    simp only[Bool.false_eq_true,if_false,List.getElem?_eq_none_iff.2 (show L.length<=a+k by omega)]
   rw[e]
   simp only[tt,seval,h1]
   refine⟨_,[PB L ⟨a,false⟩],⟨rfl,rfl⟩,am ?_⟩
   simp only[tt,seval,PB]
theorem jN (L:List Tok) (hL:L.length<=1048576) (hT:∀t∈L,t.text.size<=1048576) (s:PS) (k:Nat) (ha:s.a<=L.length):Cl Tryz.prog 221 [.c (.p 9000 0),vi k] [PB L s] fun r os=>r=vb (iZ L s k)/\os=[PB L s]:=by
 obtain⟨a,b⟩:=s
 have ha:a<=L.length:=ha
 cases b with
 |true=>
  have e:iZ L ⟨a,true⟩ k=false:=rfl
  rw[e]
  refine ai ac false Tryz.func221 rfl ae ?_
  simp only[Tryz.f221,tt,seval]
  refine dDrawn.intro [] (j3 [0,2,4,6,8,10,12,14,16,18,20,22,24,26,28,30,32,34,36,38,40,42,44,46,48,50,52,54,56,58,60,62,64,66,68,70,72,74,76,78,80,82,84,87,88,90]) ae ?_
  simp only[tt,seval]
  simp only[tt,seval,PB]
  refine⟨_,[PB L ⟨a,true⟩],⟨rfl,rfl⟩,am ?_⟩
  simp only[tt,seval,PB]
 |false=>
  refine ai ac false Tryz.func221 rfl ae ?_
  simp only[Tryz.f221,tt,seval]
  refine dDrawn.intro [] (j3 [0,2,4,6,8,10,12,14,16,18,20,22,24,26,28,30,32,34,36,38,40,42,44,46,48,50,52,54,56,58,60,62,64,66,68,70,72,74,76,78,80,82,84,87,88,90]) ae ?_
  simp only[tt,seval]
  simp only[tt,seval,PB]
  refine fun _=>?_
  by_cases hlt:a<L.length
  ·have h1:decide ((a:Int)<(L.length:Int))=true:=az aa
   have hx:L[a]?=some L[a]:=aD hlt
   have ht:=hT L[a] (aO hlt)
   have e:iZ L ⟨a,false⟩ k=(decide (L[a].kind=k)&&aJ L[a]):=by
    unfold iZ gK
    simp only[Bool.false_eq_true,if_false,Nat.add_zero,hx]
   have i0:((0:Int)<=(a:Int))=True:=eq_true aa
   have iL:((a:Int)<(L.length:Int))=True:=eq_true aa
   have iT:(a<L.length)=True:=eq_true hlt
   rw[e]
   generalize L[a]=tk at *
   simp only[tt,seval,cT hx cY,i0,iL,Tok.row]
   cases hk1:decide (tk.kind=(k:Int)) with
   |true=>
    simp only[tt,seval,cT hx cY,i0,iL,Tok.row]
    refine cZ (cC tk ht) ?_ ?_<;>simp only[tt,seval,Tok.row]
    refine⟨_,[PB L ⟨a,false⟩],⟨rfl,rfl⟩,am ?_⟩
    simp only[tt,seval,PB]
   |false=>
    simp only[tt,seval]
    refine⟨_,[PB L ⟨a,false⟩],⟨rfl,rfl⟩,am ?_⟩
    simp only[tt,seval,PB]
  ·have h1:decide ((a:Int)<(L.length:Int))=false:=au aa
   have e:iZ L ⟨a,false⟩ k=false:=by
    unfold iZ gK
    simp only[Bool.false_eq_true,if_false,Nat.add_zero,List.getElem?_eq_none_iff.2 (show L.length<=a by omega)]
   rw[e]
   simp only[tt,seval,h1]
   refine⟨_,[PB L ⟨a,false⟩],⟨rfl,rfl⟩,am ?_⟩
   simp only[tt,seval,PB]
theorem wK (L:List Tok) (hL:L.length<=1048576) (hT:∀t∈L,t.text.size<=1048576) (s:PS) (k:Nat) (w:ByteArray) (hw:w=kw k) (ha:s.a<=L.length):Cl Tryz.prog 114 [.c (.p 9000 0),vs w] [PB L s] fun r os=>r=vb (aw L s k)/\os=[PB L s]:=by
 subst hw
 rw[show aw L s k=jp L s 0 1 (kw k) from rfl]
 refine ai ac false Tryz.func114 rfl ae ?_
 simp only[Tryz.f114,tt,seval]
 refine cS (rv L hL hT s 0 1 (kw k) aa ha) ?_ ?_<;>simp only[tt,seval,PB]
 refine⟨_,[PB L s],⟨rfl,rfl⟩,am ?_⟩
 simp only[tt,seval,PB]
theorem B0 (L:List Tok) (hL:L.length<=1048576) (hT:∀t∈L,t.text.size<=1048576) (s:PS) (c:UInt8) (ha:s.a<=L.length):Cl Tryz.prog 224 [.c (.p 9000 0),vs ⟨#[c]⟩] [PB L s] fun r os=>r=vb (bt L s c)/\os=[PB L s]:=by
 rw[show bt L s c=jp L s 0 5 ⟨#[c]⟩ from rfl]
 refine ai ac false Tryz.func224 rfl ae ?_
 simp only[Tryz.f224,tt,seval]
 refine cS (rv L hL hT s 0 5 ⟨#[c]⟩ aa ha) ?_ ?_<;>simp only[tt,seval,PB]
 refine⟨_,[PB L s],⟨rfl,rfl⟩,am ?_⟩
 simp only[tt,seval,PB]
theorem bA (L:List Tok) (hL:L.length<=1048576) (hT:∀t∈L,t.text.size<=1048576) (s:PS) (k:Nat) (w:ByteArray) (hw:w=kw k) (ha:s.a<=L.length):Cl Tryz.prog 115 [.c (.p 9000 0),vs w] [PB L s] fun r os=>r=vb (aw L s k)/\os=[PB L (tkIf (aw L s k) s)]:=by
 refine ai ac false Tryz.func115 rfl ae ?_
 simp only[Tryz.f115,tt,seval]
 refine cS (wK L hL hT s k w hw ha) ?_ ?_<;>simp only[tt,seval,PB]
 cases c:aw L s k with
 |true=>
  have hlt:=(aA c).2
  simp only[tt,seval]
  rw[ax (n:=(s.a:Int)+1) aa aa]
  refine⟨_,[PB L (adv s)],⟨rfl,rfl⟩,am ?_⟩
  simp only[tt,seval,PB,adv]
  omega
 |false=>
  simp only[tt,seval]
  refine⟨_,[PB L s],⟨rfl,rfl⟩,am ?_⟩
  simp only[tt,seval,PB]
theorem dx (L:List Tok) (hL:L.length<=1048576) (hT:∀t∈L,t.text.size<=1048576) (s:PS) (c:UInt8) (ha:s.a<=L.length):Cl Tryz.prog 119 [.c (.p 9000 0),vs ⟨#[c]⟩] [PB L s] fun r os=>r=vb (bt L s c)/\os=[PB L (tkIf (bt L s c) s)]:=by
 refine ai ac false Tryz.func119 rfl ae ?_
 simp only[Tryz.f119,tt,seval]
 refine cS (B0 L hL hT s c ha) ?_ ?_<;>simp only[tt,seval,PB]
 cases c:bt L s c with
 |true=>
  have hlt:=(aK c).2
  simp only[tt,seval]
  rw[ax (n:=(s.a:Int)+1) aa aa]
  refine⟨_,[PB L (adv s)],⟨rfl,rfl⟩,am ?_⟩
  simp only[tt,seval,PB,adv]
  omega
 |false=>
  simp only[tt,seval]
  refine⟨_,[PB L s],⟨rfl,rfl⟩,am ?_⟩
  simp only[tt,seval,PB]
theorem gt (L:List Tok) (hL:L.length<=1048576) (hT:∀t∈L,t.text.size<=1048576) (s:PS) (k:Nat) (w:ByteArray) (hw:w=kw k) (ha:s.a<=L.length):Cl Tryz.prog 116 [.c (.p 9000 0),vs w] [PB L s] fun r os=>r = .tu []/\os=[PB L (must (aw L s k) s)]:=by
 refine ai ac false Tryz.func116 rfl ae ?_
 simp only[Tryz.f116,tt,seval]
 refine cS (bA L hL hT s k w hw ha) ?_ ?_<;>simp only[tt,seval,PB]
 cases c:aw L s k with
 |true=>
  simp only[tt,seval,jq,xA]
  refine⟨_,[PB L (adv s)],⟨rfl,rfl⟩,am ?_⟩
  simp only[tt,seval,PB]
 |false=>
  simp only[tt,seval,jb,Jv]
  refine⟨_,[PB L (fl s)],⟨rfl,rfl⟩,am ?_⟩
  simp only[tt,seval,PB,fl]
theorem fx (L:List Tok) (hL:L.length<=1048576) (hT:∀t∈L,t.text.size<=1048576) (s:PS) (c:UInt8) (ha:s.a<=L.length):Cl Tryz.prog 222 [.c (.p 9000 0),vs ⟨#[c]⟩] [PB L s] fun r os=>r = .tu []/\os=[PB L (must (bt L s c) s)]:=by
 refine ai ac false Tryz.func222 rfl ae ?_
 simp only[Tryz.f222,tt,seval]
 refine cS (dx L hL hT s c ha) ?_ ?_<;>simp only[tt,seval,PB]
 cases c:bt L s c with
 |true=>
  simp only[tt,seval,jq,xA]
  refine⟨_,[PB L (adv s)],⟨rfl,rfl⟩,am ?_⟩
  simp only[tt,seval,PB]
 |false=>
  simp only[tt,seval,jb,Jv]
  refine⟨_,[PB L (fl s)],⟨rfl,rfl⟩,am ?_⟩
  simp only[tt,seval,PB,fl]
theorem eQ (L:List Tok) (hL:L.length<=1048576) (hT:∀t∈L,t.text.size<=1048576) (s:PS) (k:Nat) (ha:s.a<=L.length):Cl Tryz.prog 117 [.c (.p 9000 0),vi k] [PB L s] fun r os=>r=vs (mText L k s).1/\os=[PB L (mText L k s).2]:=by
 refine ai ac false Tryz.func117 rfl ae ?_
 simp only[Tryz.f117,tt,seval]
 refine cS (jN L hL hT s k ha) ?_ ?_<;>simp only[tt,seval,PB]
 cases c:iZ L s k with
 |true=>
  obtain⟨hb,hlt⟩:=gL c
  rw[kl c]
  simp only[tt,seval]
  rw[ax (n:=(s.a:Int)+1) aa aa]
  refine dDrawn.intro [] (j3 [0,2,4,6,8,10,12,14,16,18,20,22,24]) ae ?_
  simp only[tt,seval]
  have e1:IntKind.i64.wrap ((s.a:Int)+1-1)=s.a:=by rw[ax (n:=(s.a:Int)+1-1) aa aa];omega
  have hx:L[s.a]?=some L[s.a]:=aD hlt
  have e2:bv L s=L[s.a].text:=by
   unfold bv gK
   rw[hb]
   simp only[Bool.false_eq_true,if_false,Nat.add_zero,hx]
  have i0:((0:Int)<=(s.a:Int))=True:=eq_true aa
  have iL:((s.a:Int)<(L.length:Int))=True:=eq_true aa
  have iT:(s.a<L.length)=True:=eq_true hlt
  rw[e2]
  generalize L[s.a]=tk at *
  simp only[tt,seval,e1,cT hx cY,i0,iL,Tok.row]
  refine⟨_,[PB L (adv s)],⟨rfl,rfl⟩,am ?_⟩
  simp only[tt,seval,PB,adv]
  omega
 |false=>
  have e:mText L k s=(⟨#[]⟩,fl s):=by rw[mText,if_neg (by rw[c];simp)]
  rw[e]
  simp only[tt,seval]
  refine⟨vs ⟨#[]⟩,[PB L (fl s)],⟨rfl,rfl⟩,am ?_⟩
  simp only[tt,seval,PB,fl]
theorem jg (L:List Tok) (hL:L.length<=1048576) (hT:∀t∈L,t.text.size<=1048576) (s:PS) (ha:s.a<=L.length):Cl Tryz.prog 203 [.c (.p 9000 0)] [PB L s] fun r os=>r=vi (mNum L s).1/\os=[PB L (mNum L s).2]:=by
 have hsz:(mText L 3 s).1.size<=1048576:=by
  unfold mText
  split
  ·exact ki hL hT s
  ·exact Nat.zero_le _
 have e:mNum L s=(fG (mText L 3 s).1,(mText L 3 s).2):=rfl
 rw[e]
 refine ai ac false Tryz.func203 rfl ae ?_
 simp only[Tryz.f203,tt,seval]
 refine cS (eQ L hL hT s 3 ha) ?_ ?_<;>simp only[tt,seval,PB]
 generalize (mText L 3 s).1=x at *
 refine cZ (sV x hsz) ?_ ?_<;>simp only[tt,seval,mA]
 refine⟨_,[PB L (mText L 3 s).2],⟨rfl,rfl⟩,am ?_⟩
 simp only[tt,seval,PB]
theorem HS (L:List Tok) (hL:L.length<=1048576) (hT:∀t∈L,t.text.size<=1048576) (s:PS) (ha:s.a<=L.length):Cl Tryz.prog 54 [.c (.p 9000 0)] [PB L s] fun r os=>r=vi (kf L s)/\os=[PB L s]:=by
 refine ai ac false Tryz.func54 rfl ae ?_
 simp only[Tryz.f54,tt,seval]
 refine dDrawn.intro [] (j3 [0,2,4,6,8,10,12,14,16,18,20,22,24,26,28,30]) ae ?_
 simp only[tt,seval]
 simp only[tt,seval,PB]
 cases hb:s.b with
 |true=>
  have e:kf L s=s.a:=if_neg (by rw[hb];simp)
  rw[e]
  simp only[tt,seval]
  exact⟨_,_,⟨rfl,rfl⟩,am (by simp only[tt,seval])⟩
 |false=>
  simp only[tt,seval]
  refine fun _=>ab (fun he=>?_) (fun he=>?_)
  ·have e:kf L s=s.a:=if_neg aa
   rw[e]
   exact⟨_,_,⟨rfl,rfl⟩,am (by simp only[tt,seval])⟩
  ·have e:kf L s = -1:=if_pos ⟨hb,aa⟩
   rw[e]
   exact⟨_,_,⟨rfl,rfl⟩,am (by simp only[tt,seval])⟩
theorem zN (L:List Tok) (hL:L.length<=1048576) (hT:∀t∈L,t.text.size<=1048576) (s:PS) (ha:s.a<=L.length):Cl Tryz.prog 281 [.c (.p 9000 0)] [PB L s] fun r os=>r=vs (asM L s).1/\os=[PB L (asM L s).2]:=by
 refine ai ac false Tryz.func281 rfl ae ?_
 simp only[Tryz.f281,tt,seval]
 refine cS (bA L hL hT s 12 ⟨#[65,83]⟩ ae ha) ?_ ?_<;>simp only[tt,seval,PB]
 cases c:aw L s 12 with
 |true=>
  have hm:asM L s=mText L 2 (adv s):=by rw[asM,if_pos c]
  rw[hm]
  simp only[tt,seval,jq]
  refine cS (eQ L hL hT (adv s) 2 (bo (aA c))) ?_ ?_<;>simp only[tt,seval,PB]
  refine⟨_,[PB L (mText L 2 (adv s)).2],⟨rfl,rfl⟩,am ?_⟩
  simp only[tt,seval,PB]
 |false=>
  have hm:asM L s=(z0,s):=by rw[asM,if_neg (by rw[c];simp)]
  rw[hm]
  simp only[tt,seval,jb]
  refine⟨vs z0,[PB L s],⟨rfl,rfl⟩,am ?_⟩
  simp only[tt,seval,PB,z0]
def lP (n:Nat):List D:=[.lit (.int .i64 n)]
theorem D8 (n:Nat):(lP n).length=1:=rfl
theorem tE (L:List Tok) (hL:L.length<=1048576) (hT:∀t∈L,t.text.size<=1048576) (s:PS) (ops:List Nat) (hn:ops.length<=100) (ho:∀op∈ops,1<=op/\op<=100) (ha:s.a<=L.length):Cl Tryz.prog 308 [.c (.p 9000 0),.c (.sl ops.length (ops.flatMap lP) none)] [PB L s] fun r os=>r=vi (fI L s ops)/\os=[PB L (tkIf (decide (fI L s ops≠0)) s)]:=by
 refine ai ac false Tryz.func308 rfl ae ?_
 simp only[Tryz.f308,tt,seval]
 refine fun _=>?_
 refine dLoop.intro (fun f Lo p=>∃i:Nat,f 10=vi i/\i<=ops.length/\fI L s (ops.drop i)=fI L s ops/\Lo=[(9000,.str (PB L s))]/\p=none) (fun f _ _=>(ops.length-eH (f 10)).toNat) [(9000,.str (PB L s))] none ⟨ak rfl (ao _),aq _,?_⟩ ?_
 ·simp only[tt,seval]
  exact⟨0,rfl,Nat.zero_le _,rfl⟩
 ·rintro g Lo p ⟨i,h10,hi,hin,rfl,rfl⟩
  simp only[tt,seval] at h10
  simp only[tt,seval,h10,Int.ofNat_lt]
  refine ab (fun hlt=>?_) (fun hge=>?_)
  ·have hlt:i<ops.length:=by omega
   have hx:ops[i]?=some ops[i]:=aD hlt
   obtain⟨ho1,ho2⟩:=ho ops[i] (aO hlt)
   rw[List.drop_eq_getElem_cons hlt,fI] at hin
   refine⟨aa,aa,_,aH D8 hx,by rw[lP];simp,?_⟩
   generalize ops[i]=op at *
   simp only[tt,seval,lP]
   by_cases o1:op=1
   ·have d1:decide ((op:Int)=1)=true:=az aa
    simp only[tt,seval,d1]
    have hk:j0 L s op=jp L s 0 (1:Nat) (iJ op):=by
     unfold j0
     first|rw[if_pos aa]|rw[if_neg aa]
     rfl
    rw[hk] at hin
    refine cZ (ga op) ?_ ?_<;>simp only[tt,seval]
    refine cS (rv L hL hT s 0 1 (iJ op) aa ha) ?_ ?_<;>simp only[tt,seval,PB,h10]
    cases c:jp L s 0 (1:Nat) (iJ op) with
    |true=>
     rw[if_pos c] at hin
     have hlt2:=(mU c).2
     rw[<-hin]
     have h0:decide (op≠0)=true:=az aa
     simp only[tt,seval]
     rw[ax (n:=(s.a:Int)+1) aa aa]
     refine⟨vi op,[PB L (adv s)],⟨rfl,by rw[h0];rfl⟩,am ?_⟩
     simp only[tt,seval,PB,adv]
     omega
    |false=>
     rw[if_neg (by rw[c];simp)] at hin
     simp only[tt,seval]
     rw[eS i aa]
     exact⟨[(9000,.str (PB L s))],none,ak rfl (ao _),aq _,⟨i+1,rfl,aa,hin,rfl,rfl⟩,aB⟩
   ·have d1:decide ((op:Int)=1)=false:=au aa
    by_cases o2:op=2
    ·have d2:decide ((op:Int)=2)=true:=az aa
     simp only[tt,seval,d1,d2]
     have hk:j0 L s op=jp L s 0 (1:Nat) (iJ op):=by
      unfold j0
      first|rw[if_pos aa]|rw[if_neg aa]
      rfl
     rw[hk] at hin
     refine cZ (ga op) ?_ ?_<;>simp only[tt,seval]
     refine cS (rv L hL hT s 0 1 (iJ op) aa ha) ?_ ?_<;>simp only[tt,seval,PB,h10]
     cases c:jp L s 0 (1:Nat) (iJ op) with
     |true=>
      rw[if_pos c] at hin
      have hlt2:=(mU c).2
      rw[<-hin]
      have h0:decide (op≠0)=true:=az aa
      simp only[tt,seval]
      rw[ax (n:=(s.a:Int)+1) aa aa]
      refine⟨vi op,[PB L (adv s)],⟨rfl,by rw[h0];rfl⟩,am ?_⟩
      simp only[tt,seval,PB,adv]
      omega
     |false=>
      rw[if_neg (by rw[c];simp)] at hin
      simp only[tt,seval]
      rw[eS i aa]
      exact⟨[(9000,.str (PB L s))],none,ak rfl (ao _),aq _,⟨i+1,rfl,aa,hin,rfl,rfl⟩,aB⟩
    ·have d2:decide ((op:Int)=2)=false:=au aa
     simp only[tt,seval,d1,d2]
     have hk:j0 L s op=jp L s 0 (5:Nat) (iJ op):=by
      unfold j0
      first|rw[if_pos aa]|rw[if_neg aa]
      rfl
     rw[hk] at hin
     refine cZ (ga op) ?_ ?_<;>simp only[tt,seval]
     refine cS (rv L hL hT s 0 5 (iJ op) aa ha) ?_ ?_<;>simp only[tt,seval,PB,h10]
     cases c:jp L s 0 (5:Nat) (iJ op) with
     |true=>
      rw[if_pos c] at hin
      have hlt2:=(mU c).2
      rw[<-hin]
      have h0:decide (op≠0)=true:=az aa
      simp only[tt,seval]
      rw[ax (n:=(s.a:Int)+1) aa aa]
      refine⟨vi op,[PB L (adv s)],⟨rfl,by rw[h0];rfl⟩,am ?_⟩
      simp only[tt,seval,PB,adv]
      omega
     |false=>
      rw[if_neg (by rw[c];simp)] at hin
      simp only[tt,seval]
      rw[eS i aa]
      exact⟨[(9000,.str (PB L s))],none,ak rfl (ao _),aq _,⟨i+1,rfl,aa,hin,rfl,rfl⟩,aB⟩
  ·have:i=ops.length:=by omega
   subst this
   rw[List.drop_length] at hin
   have h0:fI L s ops=0:=hin.symm
   rw[h0]
   simp only[tt,seval]
   exact⟨_,[PB L s],⟨rfl,rfl⟩,am (by simp only[tt,seval,PB])⟩
end Go.Proofs.YtbodcedhmccenaaGreatDoor
set_option maxRecDepth 8000
namespace Go.Proofs.YtbodcedhmccenaaGreatDoor
open Go Go.Dv Go.Cv
open Go.Vc (D dg dh cX bk)
theorem D9 (op:Nat) (a b:Expr) (Ak As Bk Bs:List (List Nat)):ClT Tryz.prog 309 [vi op,.ag (aG a.row [Ak,As]),.ag (aG b.row [Bk,Bs])] [] (Ak++(As++(Bk++Bs))).flatten fun r os=>os=[]/\∃Hk Hs,r = .ag (aG (ed op a b).row [Hk,Hs]):=by
 obtain⟨k1,p1,n1,v1,q1,m1,ks1,ss1⟩:=a
 obtain⟨k2,p2,n2,v2,q2,m2,ks2,ss2⟩:=b
 simp only[al,aG]
 refine rn ac (some (Ak++(As++(Bk++Bs)))) _ (fun ps h=>by injection h with h;subst h;first|rfl|simp) Tryz.func309 rfl ae ?_
 simp only[Tryz.f309,tt,seval]
 refine fun G=>⟨_,[],⟨rfl,G::(Ak++(As++(Bk++Bs))),[],rfl⟩,am ?_⟩
 simp only[tt,seval,fW,ed,zVal,z0,al,aG]
 first|done|exact mT
def iM (L:List Tok) (fn:FuncId) (m:PM Expr):Prop:=∀s e s',m s=some (e,s')->s.a<=L.length->Cl Tryz.prog fn [.c (.p 9000 0)] [PB L s] fun r os=>(∃Fk Fs,r = .ag (aG (e).row [Fk,Fs]))/\os=[PB L s']
set_option maxHeartbeats 2000000 in
theorem gI (L:List Tok) (hL:L.length<=1048576) (hT:∀t∈L,t.text.size<=1048576) {f:PM Expr} (okf:OkM (L:=L) f) (g:FuncId) (hg:iM L g f) (lv:Nat) (hn:(fX lv).length<=100) (ho:∀op∈fX lv,1<=op/\op<=100) (s:PS) (x:Expr) (s':PS) (h:(match f s with|none=>none|some (e,s1)=>bP L f lv (L.length+1) e s1)=some (x,s')) (ha:s.a<=L.length):Cl Tryz.prog 264 [.c (.p 9000 0),.c (.fn g [9000] []),.c (.sl (fX lv).length ((fX lv).flatMap lP) none)] [PB L s] fun r os=>(∃Fk Fs,r = .ag (aG (x).row [Fk,Fs]))/\os=[PB L s']:=by
 split at h
 ·cases h
 rename_i e s1 he
 have ha1:=(okf _ _ _ he).2.1 ha
 have c1:=hg _ _ _ he ha
 obtain⟨k1,p1,n1,v1,q1,m1,ks1,ss1⟩:=e
 rw[al] at c1
 refine ai ac true Tryz.func264 rfl ae ?_
 simp only[Tryz.f264,tt,seval]
 refine CallQ.intro (c1) ?_ ?_ ?_
 ·decide
 ·simp only[tt,seval,PB]
 rintro r os ⟨⟨Fk,Fs,rfl⟩,rfl⟩ hos
 simp only[tt,seval,PB,aG]
 refine dLoop.gh [] ?_
 refine dLoop0.intro (fun f' Lo p=>∃(e:Expr) (v:PS) (n:Nat) (Ek Es:List (List Nat)),bP L f lv n e v=some (x,s')/\v.a<=L.length/\Lo=[(9000,.str (PB L v)),(7,.str (aG (e).row [Ek,Es])),(6,.str [.v (.int .i64 0),.v (.int .i64 0),.v (.bool false),.v (.int .i64 0),.v (.int .i64 0),.v (.string ByteArray.empty),.v (.string ByteArray.empty),.v (.string ByteArray.empty),.v (.slice none 0 0),.v (.slice none 0 0)])]/\p=some (Ek++Es)) (fun _ Lo _=>L.length-Eg Lo) [(9000,.str (PB L s1)),(7,.str (aG ((Expr.mk k1 p1 n1 v1 q1 m1 ks1 ss1)).row [Fk,Fs])),(6,.str [.v (.int .i64 0),.v (.int .i64 0),.v (.bool false),.v (.int .i64 0),.v (.int .i64 0),.v (.string ByteArray.empty),.v (.string ByteArray.empty),.v (.string ByteArray.empty),.v (.slice none 0 0),.v (.slice none 0 0)])] (some (Fk++Fs)) ⟨by rw[al];exact ak rfl (ak rfl (ak rfl (ao _))),PoSub.refl _,?_⟩ ?_
 ·simp only[tt,seval]
  exact⟨(Expr.mk k1 p1 n1 v1 q1 m1 ks1 ss1),s1,L.length+1,Fk,Fs,h,ha1,rfl,rfl⟩
 ·rintro g' Lo p ⟨e,v,n,Ek,Es,hm,hv,rfl,rfl⟩
  obtain⟨k1,p1,n1,v1,q1,m1,ks1,ss1⟩:=e
  rw[al]
  simp only[tt,seval,aG]
  refine cS (tE L hL hT v (fX lv) hn ho hv) ?_ ?_<;>simp only[tt,seval,PB]
  cases n with
  |zero=>cases hm
  |succ n=>
  rw[bP] at hm
  have hop0:fI L v (fX lv)=cn L v lv:=rfl
  rw[hop0]
  by_cases hop:cn L v lv=0
  ·rw[if_pos hop] at hm
   injection hm with hm;injection hm with h1 h2;subst h1 h2
   have e0:decide (((cn L v lv:Nat):Int)=0)=true:=az aa
   have e1:decide (¬cn L v lv=0)=false:=au aa
   simp only[tt,seval,hop,jb]
   refine⟨.ag (aG ((Expr.mk k1 p1 n1 v1 q1 m1 ks1 ss1)).row [Ek,Es]),[PB L (v)],⟨⟨Ek,Es,by first|rfl|simp only[rW,aG,Val.row,lc]⟩,rfl⟩,am ?_⟩
   simp only[tt,seval,PB,al,aG]
   first|done|exact mT
  ·rw[if_neg hop] at hm
   split at hm
   ·cases hm
   rename_i z u hz
   have hav:=bo (L:=L) (du hop)
   have o3:=okf _ _ _ hz
   have o3a:v.a+1<=u.a:=o3.1
   have hu:=o3.2.1 hav
   have hlt:=(du hop).2
   obtain⟨k2,p2,n2,v2,q2,m2,ks2,ss2⟩:=z
   have c2:=hg _ _ _ hz hav
   rw[al] at c2
   have cb:=fun Gk Gs=>D9 (cn L v lv) (Expr.mk k1 p1 n1 v1 q1 m1 ks1 ss1) (Expr.mk k2 p2 n2 v2 q2 m2 ks2 ss2) Ek Es Gk Gs
   simp only[al,aG] at cb
   have e0:decide (((cn L v lv:Nat):Int)=0)=false:=au aa
   have e0':(((cn L v lv:Nat):Int)=0)=False:=eq_false aa
   have e1:decide (¬cn L v lv=0)=true:=az aa
   simp only[tt,seval,e0',e1,jq]
   refine dDrawn.intro [20] (.take 0 (.take 2 (.br 1 (.br 3 (.br 4 (.br 5 .done .nobr) .nobr) .nobr) (.br 3 (.take 1 (.br 4 (.br 5 .done .nobr) .nobr)) .nobr)))) ae ?_
   simp only[tt,seval]
   all_goals repeat' first|refine dO ?_ ?_|refine bz ?_ ?_
   all_goals
    refine CallQ.intro (c2) ?_ ?_ ?_
    ·decide
    ·simp only[tt,seval,PB]
     decide
    rintro r os ⟨⟨Gk,Gs,rfl⟩,rfl⟩ hos
    simp only[tt,seval,PB,aG]
   all_goals repeat' first|refine dO ?_ ?_|refine bz ?_ ?_
   all_goals
    refine D0 ([]) (cb Gk Gs) ?_ ?_ ?_ ?_
    ·decide
    ·simp only[tt,seval]
    ·exact fun x=>by simp only[List.flatten_append,List.flatten_nil,List.count_append,List.append_nil];omega
    rintro r os ⟨rfl,Hk,Hs,rfl⟩ hos
    simp only[tt,seval,ed,al,aG]
   all_goals
    refine⟨[(9000,.str (PB L u)),(7,.str (aG ((ed (cn L v lv) (Expr.mk k1 p1 n1 v1 q1 m1 ks1 ss1) (Expr.mk k2 p2 n2 v2 q2 m2 ks2 ss2))).row [Hk,Hs])),(6,.str [.v (.int .i64 0),.v (.int .i64 0),.v (.bool false),.v (.int .i64 0),.v (.int .i64 0),.v (.string ByteArray.empty),.v (.string ByteArray.empty),.v (.string ByteArray.empty),.v (.slice none 0 0),.v (.slice none 0 0)])],some (Hk++Hs),by simp only[fW,PB,ed,zVal,z0,al,List.flatMap_nil,List.flatMap_cons,List.append_nil,List.length_nil,List.length_cons,aG,lc];exact ak rfl (ak rfl (ak rfl (ao _))),PoSub.refl _,⟨_,u,n,Hk,Hs,hm,hu,rfl,rfl⟩,?_⟩
    show L.length-((u.a:Int)).toNat<L.length-((v.a:Int)).toNat
    omega
theorem JC:fX 1=[1]:=rfl
theorem JD:fX 2=[2]:=rfl
theorem JE:fX 4=[3,4,5,6,7,8]:=rfl
theorem JF:fX 5=[9]:=rfl
theorem JG:fX 6=[10,11]:=rfl
theorem JH:fX 7=[12,13,14]:=rfl
set_option maxHeartbeats 1000000 in
theorem Da (L:List Tok) (hL:L.length<=1048576) (hT:∀t∈L,t.text.size<=1048576) {f:Nat->PM Expr} {q:PM Query} (ok:OkM (L:=L) (f 2)) (hg:iM L 265 (f 2)):iM L 171 (stepE L f q 1):=by
 intro s x s' h ha
 have h:(match f 2 s with|none=>none|some (e,s1)=>bP L (f 2) 1 (L.length+1) e s1)=some (x,s'):=h
 have c1:=gI L hL hT ok 265 hg 1 ah ah s x s' h ha
 obtain⟨k1,p1,n1,v1,q1,m1,ks1,ss1⟩:=x
 rw[al] at c1
 simp only[JC] at c1
 refine ai ac true Tryz.func171 rfl ae ?_
 simp only[Tryz.f171,tt,seval]
 refine fe [6] ?_
 simp only[tt,seval,PB]
 refine fun G=>?_
 refine Call1.intro (c1) ?_ ?_ ?_
 ·decide
 ·simp only[tt,seval,PB,lP]
 rintro r os ⟨⟨Fk,Fs,rfl⟩,rfl⟩ hos
 simp only[tt,seval,PB,lP,aG]
 refine⟨.ag (aG ((Expr.mk k1 p1 n1 v1 q1 m1 ks1 ss1)).row [Fk,Fs]),[PB L (s')],⟨⟨Fk,Fs,by first|rfl|simp only[rW,aG,Val.row,lc]⟩,rfl⟩,am ?_⟩
 simp only[tt,seval,PB,al,aG]
 first|done|exact mT
set_option maxHeartbeats 1000000 in
theorem B1 (L:List Tok) (hL:L.length<=1048576) (hT:∀t∈L,t.text.size<=1048576) {f:Nat->PM Expr} {q:PM Query} (ok:OkM (L:=L) (f 3)) (hg:iM L 310 (f 3)):iM L 265 (stepE L f q 2):=by
 intro s x s' h ha
 have h:(match f 3 s with|none=>none|some (e,s1)=>bP L (f 3) 2 (L.length+1) e s1)=some (x,s'):=h
 have c1:=gI L hL hT ok 310 hg 2 ah ah s x s' h ha
 obtain⟨k1,p1,n1,v1,q1,m1,ks1,ss1⟩:=x
 rw[al] at c1
 simp only[JD] at c1
 refine ai ac true Tryz.func265 rfl ae ?_
 simp only[Tryz.f265,tt,seval]
 refine fe [6] ?_
 simp only[tt,seval,PB]
 refine fun G=>?_
 refine Call1.intro (c1) ?_ ?_ ?_
 ·decide
 ·simp only[tt,seval,PB,lP]
 rintro r os ⟨⟨Fk,Fs,rfl⟩,rfl⟩ hos
 simp only[tt,seval,PB,lP,aG]
 refine⟨.ag (aG ((Expr.mk k1 p1 n1 v1 q1 m1 ks1 ss1)).row [Fk,Fs]),[PB L (s')],⟨⟨Fk,Fs,by first|rfl|simp only[rW,aG,Val.row,lc]⟩,rfl⟩,am ?_⟩
 simp only[tt,seval,PB,al,aG]
 first|done|exact mT
set_option maxHeartbeats 1000000 in
theorem B2 (L:List Tok) (hL:L.length<=1048576) (hT:∀t∈L,t.text.size<=1048576) {f:Nat->PM Expr} {q:PM Query} (ok:OkM (L:=L) (f 6)) (hg:iM L 363 (f 6)):iM L 350 (stepE L f q 5):=by
 intro s x s' h ha
 have h:(match f 6 s with|none=>none|some (e,s1)=>bP L (f 6) 5 (L.length+1) e s1)=some (x,s'):=h
 have c1:=gI L hL hT ok 363 hg 5 ah ah s x s' h ha
 obtain⟨k1,p1,n1,v1,q1,m1,ks1,ss1⟩:=x
 rw[al] at c1
 simp only[JF] at c1
 refine ai ac true Tryz.func350 rfl ae ?_
 simp only[Tryz.f350,tt,seval]
 refine fe [6] ?_
 simp only[tt,seval,PB]
 refine fun G=>?_
 refine Call1.intro (c1) ?_ ?_ ?_
 ·decide
 ·simp only[tt,seval,PB,lP]
 rintro r os ⟨⟨Fk,Fs,rfl⟩,rfl⟩ hos
 simp only[tt,seval,PB,lP,aG]
 refine⟨.ag (aG ((Expr.mk k1 p1 n1 v1 q1 m1 ks1 ss1)).row [Fk,Fs]),[PB L (s')],⟨⟨Fk,Fs,by first|rfl|simp only[rW,aG,Val.row,lc]⟩,rfl⟩,am ?_⟩
 simp only[tt,seval,PB,al,aG]
 first|done|exact mT
set_option maxHeartbeats 1000000 in
theorem B3 (L:List Tok) (hL:L.length<=1048576) (hT:∀t∈L,t.text.size<=1048576) {f:Nat->PM Expr} {q:PM Query} (ok:OkM (L:=L) (f 7)) (hg:iM L 369 (f 7)):iM L 363 (stepE L f q 6):=by
 intro s x s' h ha
 have h:(match f 7 s with|none=>none|some (e,s1)=>bP L (f 7) 6 (L.length+1) e s1)=some (x,s'):=h
 have c1:=gI L hL hT ok 369 hg 6 ah ah s x s' h ha
 obtain⟨k1,p1,n1,v1,q1,m1,ks1,ss1⟩:=x
 rw[al] at c1
 simp only[JG] at c1
 refine ai ac true Tryz.func363 rfl ae ?_
 simp only[Tryz.f363,tt,seval]
 refine fe [6] ?_
 simp only[tt,seval,PB]
 refine fun G=>?_
 refine Call1.intro (c1) ?_ ?_ ?_
 ·decide
 ·simp only[tt,seval,PB,lP]
 rintro r os ⟨⟨Fk,Fs,rfl⟩,rfl⟩ hos
 simp only[tt,seval,PB,lP,aG]
 refine⟨.ag (aG ((Expr.mk k1 p1 n1 v1 q1 m1 ks1 ss1)).row [Fk,Fs]),[PB L (s')],⟨⟨Fk,Fs,by first|rfl|simp only[rW,aG,Val.row,lc]⟩,rfl⟩,am ?_⟩
 simp only[tt,seval,PB,al,aG]
 first|done|exact mT
set_option maxHeartbeats 1000000 in
theorem yj (L:List Tok) (hL:L.length<=1048576) (hT:∀t∈L,t.text.size<=1048576) {f:Nat->PM Expr} {q:PM Query} (ok:OkM (L:=L) (f 8)) (hg:iM L 371 (f 8)):iM L 369 (stepE L f q 7):=by
 intro s x s' h ha
 have h:(match f 8 s with|none=>none|some (e,s1)=>bP L (f 8) 7 (L.length+1) e s1)=some (x,s'):=h
 have c1:=gI L hL hT ok 371 hg 7 ah ah s x s' h ha
 obtain⟨k1,p1,n1,v1,q1,m1,ks1,ss1⟩:=x
 rw[al] at c1
 simp only[JH] at c1
 refine ai ac true Tryz.func369 rfl ae ?_
 simp only[Tryz.f369,tt,seval]
 refine fe [6] ?_
 simp only[tt,seval,PB]
 refine fun G=>?_
 refine Call1.intro (c1) ?_ ?_ ?_
 ·decide
 ·simp only[tt,seval,PB,lP]
 rintro r os ⟨⟨Fk,Fs,rfl⟩,rfl⟩ hos
 simp only[tt,seval,PB,lP,aG]
 refine⟨.ag (aG ((Expr.mk k1 p1 n1 v1 q1 m1 ks1 ss1)).row [Fk,Fs]),[PB L (s')],⟨⟨Fk,Fs,by first|rfl|simp only[rW,aG,Val.row,lc]⟩,rfl⟩,am ?_⟩
 simp only[tt,seval,PB,al,aG]
 first|done|exact mT
set_option maxHeartbeats 1000000 in
theorem B4 (L:List Tok) (hL:L.length<=1048576) (hT:∀t∈L,t.text.size<=1048576) {f:Nat->PM Expr} {q:PM Query} (hs:iM L 310 (f 3)) (hg:iM L 332 (f 4)):iM L 310 (stepE L f q 3):=by
 intro s x s' h ha
 have h:(if aw L s 15=true then (match f 3 (adv s) with|none=>none|some (e,s1)=>some (se 15 e,s1)) else f 4 s)=some (x,s'):=h
 refine ai ac true Tryz.func310 rfl ae ?_
 simp only[Tryz.f310,tt,seval]
 refine cS (bA L hL hT s 15 ⟨#[78,79,84]⟩ ae ha) ?_ ?_<;>simp only[tt,seval,PB]
 cases c:aw L s 15 with
 |true=>
  rw[if_pos c] at h
  split at h
  ·cases h
  rename_i e s1 he
  injection h with h;injection h with h1 h2;subst h1 h2
  obtain⟨k1,p1,n1,v1,q1,m1,ks1,ss1⟩:=e
  have c1:=hs _ _ _ he (bo (aA c))
  rw[al] at c1
  simp only[tt,seval,jq]
  refine CallQ.intro (c1) ?_ ?_ ?_
  ·decide
  ·simp only[tt,seval,PB]
  rintro r os ⟨⟨Fk,Fs,rfl⟩,rfl⟩ hos
  simp only[tt,seval,PB,aG]
  refine fun G=>?_
  refine⟨.ag (aG (se 15 (Expr.mk k1 p1 n1 v1 q1 m1 ks1 ss1)).row [G::(Fk++Fs),[]]),[PB L s1],⟨⟨_,_,rfl⟩,rfl⟩,am ?_⟩
  simp only[tt,seval,fW,PB,se,zVal,z0,al,aG]
  first|done|exact mT
 |false=>
  rw[if_neg (by rw[c];simp)] at h
  obtain⟨k1,p1,n1,v1,q1,m1,ks1,ss1⟩:=x
  have c1:=hg _ _ _ h ha
  rw[al] at c1
  simp only[tt,seval,jb]
  refine CallQ.intro (c1) ?_ ?_ ?_
  ·decide
  ·simp only[tt,seval,PB]
  rintro r os ⟨⟨Fk,Fs,rfl⟩,rfl⟩ hos
  simp only[tt,seval,PB,aG]
  refine⟨.ag (aG ((Expr.mk k1 p1 n1 v1 q1 m1 ks1 ss1)).row [Fk,Fs]),[PB L (s')],⟨⟨Fk,Fs,by first|rfl|simp only[rW,aG,Val.row,lc]⟩,rfl⟩,am ?_⟩
  simp only[tt,seval,PB,al,aG]
  first|done|exact mT
set_option maxHeartbeats 1000000 in
theorem B5 (L:List Tok) (hL:L.length<=1048576) (hT:∀t∈L,t.text.size<=1048576) {f:Nat->PM Expr} {q:PM Query} (hs:iM L 371 (f 8)) (hg:iM L 372 (f 9)):iM L 371 (stepE L f q 8):=by
 intro s x s' h ha
 have h:(if bt L s 45=true then (match f 8 (adv s) with|none=>none|some (e,s1)=>some (se 16 e,s1)) else f 9 s)=some (x,s'):=h
 refine ai ac true Tryz.func371 rfl ae ?_
 simp only[Tryz.f371,tt,seval]
 refine cS (dx L hL hT s 45 ha) ?_ ?_<;>simp only[tt,seval,PB]
 cases c:bt L s 45 with
 |true=>
  rw[if_pos c] at h
  split at h
  ·cases h
  rename_i e s1 he
  injection h with h;injection h with h1 h2;subst h1 h2
  obtain⟨k1,p1,n1,v1,q1,m1,ks1,ss1⟩:=e
  have c1:=hs _ _ _ he (bo (aK c))
  rw[al] at c1
  simp only[tt,seval,jq]
  refine CallQ.intro (c1) ?_ ?_ ?_
  ·decide
  ·simp only[tt,seval,PB]
  rintro r os ⟨⟨Fk,Fs,rfl⟩,rfl⟩ hos
  simp only[tt,seval,PB,aG]
  refine fun G=>?_
  refine⟨.ag (aG (se 16 (Expr.mk k1 p1 n1 v1 q1 m1 ks1 ss1)).row [G::(Fk++Fs),[]]),[PB L s1],⟨⟨_,_,rfl⟩,rfl⟩,am ?_⟩
  simp only[tt,seval,fW,PB,se,zVal,z0,al,aG]
  first|done|exact mT
 |false=>
  rw[if_neg (by rw[c];simp)] at h
  obtain⟨k1,p1,n1,v1,q1,m1,ks1,ss1⟩:=x
  have c1:=hg _ _ _ h ha
  rw[al] at c1
  simp only[tt,seval,jb]
  refine CallQ.intro (c1) ?_ ?_ ?_
  ·decide
  ·simp only[tt,seval,PB]
  rintro r os ⟨⟨Fk,Fs,rfl⟩,rfl⟩ hos
  simp only[tt,seval,PB,aG]
  refine⟨.ag (aG ((Expr.mk k1 p1 n1 v1 q1 m1 ks1 ss1)).row [Fk,Fs]),[PB L (s')],⟨⟨Fk,Fs,by first|rfl|simp only[rW,aG,Val.row,lc]⟩,rfl⟩,am ?_⟩
  simp only[tt,seval,PB,al,aG]
  first|done|exact mT
def Iw (L:List Tok) (fn:FuncId) (m:PM Query):Prop:=∀s e s',m s=some (e,s')->s.a<=L.length->Cl Tryz.prog fn [.c (.p 9000 0)] [PB L s] fun r os=>(∃Fi Ff Fw Fo,r = .ag (aG (e).row [Fi,Ff,Fw,Fo]))/\os=[PB L s']
theorem rx (v:Val):Cl Tryz.prog 373 [.ag (ar v.row)] [] fun r _=>r = .ag (aG (dj v).row [[],[]]):=by
 refine ai ac false Tryz.func373 rfl ae ?_
 simp only[Tryz.f373,tt,seval]
 simp only[tt,seval,Val.row]
 refine⟨.ag (aG (dj v).row [[],[]]),[],rfl,am ?_⟩
 simp only[tt,seval,fW,dj,z0,al,aG]
set_option maxHeartbeats 2000000 in
theorem B6 (L:List Tok) (hL:L.length<=1048576) (hT:∀t∈L,t.text.size<=1048576) {f:Nat->PM Expr} (ok:OkM (L:=L) (f 1)) (hg:iM L 171 (f 1)) (s:PS) (x:List Expr) (s':PS) (h:kd L f s=some (x,s')) (ha:s.a<=L.length):Cl Tryz.prog 223 [.c (.p 9000 0)] [PB L s] fun r os=>(x.length<=1048580/\∃F,r = .c (.ow 52 x.length (x.flatMap Expr.row) (some F)))/\os=[PB L s']:=by
 unfold kd at h
 split at h
 ·cases h
 rename_i e s1 he
 have ha1:=(ok _ _ _ he).2.1 ha
 have c1:=hg _ _ _ he ha
 obtain⟨k1,p1,n1,v1,q1,m1,ks1,ss1⟩:=e
 rw[al] at c1
 refine ai ac true Tryz.func223 rfl ae ?_
 simp only[Tryz.f223,tt,seval]
 refine CallQ.intro (c1) ?_ ?_ ?_
 ·decide
 ·simp only[tt,seval,PB]
 rintro r os ⟨⟨Fk,Fs,rfl⟩,rfl⟩ hos
 simp only[tt,seval,PB,aG]
 refine dLoop.gh [.ren 6 13] ⟨ah,ah,?_⟩
 refine dLoop0.intro (fun f' Lo p=>∃(l:List Expr) (v:PS) (n:Nat) (Fl Pl:List (List Nat)),f' 3 = .c (.s 13 l.length)/\f9 L (f 1) n l v=some (x,s')/\v.a<=L.length/\l.length<=v.a+1/\Sb Fl.flatten Pl.flatten/\Lo=[(9000,.str (PB L v)),(13,.arr 52 (l).length ((l).flatMap Expr.row) (some (Fl)))]/\p=some Pl) (fun _ Lo _=>L.length-Eg Lo) [(9000,.str (PB L s1)),(13,.arr 52 ([(Expr.mk k1 p1 n1 v1 q1 m1 ks1 ss1)]).length (([(Expr.mk k1 p1 n1 v1 q1 m1 ks1 ss1)]).flatMap Expr.row) (some (Fk++Fs)))] (some (Fk++Fs)) ⟨by simp only[PB,al,List.flatMap_nil,List.flatMap_cons,List.append_nil,List.length_nil,List.length_cons];exact ak rfl (ak rfl (ao _)),PoSub.refl _,?_⟩ ?_
 ·simp only[tt,seval]
  exact⟨[(Expr.mk k1 p1 n1 v1 q1 m1 ks1 ss1)],s1,L.length+1,Fk++Fs,Fk++Fs,rfl,h,ha1,by simp,Sb.refl _,rfl,rfl⟩
 ·rintro g' Lo p ⟨l,v,n,Fl,Pl,h3,hm,hv,hml,hsb,rfl,rfl⟩
  simp only[tt,seval] at h3
  simp only[tt,seval]
  refine cS (dx L hL hT v 44 hv) ?_ ?_<;>simp only[tt,seval,PB,h3]
  cases n with
  |zero=>cases hm
  |succ n=>
  rw[f9] at hm
  cases c44:bt L v 44 with
  |true=>
   rw[if_pos c44] at hm
   split at hm
   ·cases hm
   rename_i z u hz
   have hav:=bo (L:=L) (aK c44)
   have o3:=ok _ _ _ hz
   have o3a:v.a+1<=u.a:=o3.1
   have hu:=o3.2.1 hav
   have hlt:=(aK c44).2
   obtain⟨k2,p2,n2,v2,q2,m2,ks2,ss2⟩:=z
   have c2:=hg _ _ _ hz hav
   rw[al] at c2
   simp only[tt,seval,jq]
   refine CallQ.intro (c2) ?_ ?_ ?_
   ·decide
   ·simp only[tt,seval,PB]
   rintro r os ⟨⟨Gk,Gs,rfl⟩,rfl⟩ hos
   simp only[tt,seval,PB,aG]
   refine kU ?_
   refine⟨[(9000,.str (PB L u)),(13,.arr 52 ((l++[(Expr.mk k2 p2 n2 v2 q2 m2 ks2 ss2)])).length (((l++[(Expr.mk k2 p2 n2 v2 q2 m2 ks2 ss2)])).flatMap Expr.row) (some (Fl++(Gk++Gs))))],some (Pl++(Gk++Gs)),by simp only[PB,al,List.flatMap_nil,List.flatMap_cons,List.append_nil,List.length_nil,List.length_cons,List.flatMap_append,aC];exact ak rfl (ak rfl (ao _)),PoSub.refl _,⟨l++[(Expr.mk k2 p2 n2 v2 q2 m2 ks2 ss2)],u,n,_,_,by simp,hm,hu,by simp;omega,by simp only[List.flatten_append];exact hsb.append (Sb.refl _),rfl,rfl⟩,?_⟩
   show L.length-((u.a:Int)).toNat<L.length-((v.a:Int)).toNat
   omega
  |false=>
   rw[if_neg (by rw[c44];simp)] at hm
   injection hm with hm;injection hm with e1 e2;subst e1 e2
   simp only[tt,seval,jb]
   refine⟨.c (.ow 52 l.length (l.flatMap Expr.row) (some Fl)),[PB L v],⟨⟨aa,Fl,rfl⟩,rfl⟩,am ?_⟩
   simp only[tt,seval,PB]
   exact hsb
set_option maxHeartbeats 4000000 in
theorem Db (L:List Tok) (hL:L.length<=1048576) (hT:∀t∈L,t.text.size<=1048576) {f:Nat->PM Expr} {q:PM Query} (ok:∀lv,OkM (L:=L) (f lv)) (okq:OkM (L:=L) q) (hor:iM L 171 (f 1)) (hq:Iw L 101 q) (e:Expr) (not:Bool) (Ek Es:List (List Nat)) (s:PS) (x:Expr) (s':PS) (h:sf L f q e not s=some (x,s')) (ha:s.a<=L.length):ClT Tryz.prog 351 [.c (.p 9000 0),.ag (aG e.row [Ek,Es]),vb not] [PB L s] (Ek++Es).flatten fun r os=>(∃Hk Hs,r = .ag (aG x.row [Hk,Hs]))/\os=[PB L s']:=by
 obtain⟨k1,p1,n1,v1,q1,m1,ks1,ss1⟩:=e
 unfold sf at h
 simp only at h
 simp only[al,aG]
 refine rn ac (some (Ek++Es)) _ (fun ps h=>by injection h with h;subst h;first|rfl|simp) Tryz.func351 rfl ae ?_
 simp only[Tryz.f351,tt,seval]
 refine cS (fx L hL hT s 40 ha) ?_ ?_<;>simp only[tt,seval,PB]
 have o1:Ok L s (must (bt L s 40) s):=Ok.must fun h=>aK h
 have ha1:=o1.2.1 ha
 generalize must (bt L s 40) s=u at *
 refine cS (wK L hL hT u 1 ⟨#[83,69,76,69,67,84]⟩ ae ha1) ?_ ?_<;>simp only[tt,seval,PB]
 cases c1:aw L u 1 with
 |true=>
  rw[if_pos c1] at h
  split at h
  ·cases h
  rename_i y t hy
  injection h with h;injection h with h1 h2;subst h1 h2
  have ht:=(okq _ _ _ hy).2.1 ha1
  obtain⟨d,its,frs,whs,ods,lim⟩:=y
  have cq:=hq _ _ _ hy ha1
  rw[aF] at cq
  simp only[tt,seval]
  refine CallQ.intro (cq) ?_ ?_ ?_
  ·decide
  ·simp only[tt,seval,PB]
  rintro r os ⟨⟨Fi,Ff,Fw,Fo,rfl⟩,rfl⟩ hos
  simp only[tt,seval,PB,aG]
  refine cS (fx L hL hT t 41 ht) ?_ ?_<;>simp only[tt,seval,PB]
  refine fun G0=>?_
  refine fun G1=>?_
  refine⟨.ag (aG (bR 8 not [(Expr.mk k1 p1 n1 v1 q1 m1 ks1 ss1)] [(Query.mk d its frs whs ods lim)]).row [G0::(Ek++Es),G1::(Fi++(Ff++(Fw++Fo)))]),[PB L (must (bt L t 41) t)],⟨⟨_,_,rfl⟩,rfl⟩,am ?_⟩
  simp only[tt,seval,fW,PB,bR,zVal,z0,al,aF,aG]
  first|done|exact K7
 |false=>
  rw[if_neg (by rw[c1];simp)] at h
  split at h
  ·cases h
  rename_i l t hl
  injection h with h;injection h with h1 h2;subst h1 h2
  have ht:=(OkM.ors ok _ _ _ hl).2.1 ha1
  have cl:=B6 L hL hT (ok 1) hor _ _ _ hl ha1
  simp only[tt,seval]
  refine dDrawn.intro [24] (.take 0 (.take 2 (.br 1 (.br 3 (.br 4 (.take 5 (.br 6 .done .nobr)) .nobr) .nobr) (.br 3 (.take 1 (.br 4 (.take 5 (.br 6 .done .nobr)) .nobr)) .nobr)))) ae ?_
  simp only[tt,seval]
  all_goals repeat' first|refine dO ?_ ?_|refine bz ?_ ?_
  all_goals
   refine CallQ.intro (cl) ?_ ?_ ?_
   ·decide
   ·simp only[tt,seval,PB]
    decide
   rintro r os ⟨⟨hlen,Fl,rfl⟩,rfl⟩ hos
   simp only[tt,seval,PB]
  all_goals repeat' first|refine lO ?_ ?_|refine eO ?_ ?_|refine eP ?_ ?_
  all_goals
   refine⟨ae,cG aQ l,⟨by simp only[maxLen];omega,aa⟩,?_⟩
  all_goals
   refine cS (fx L hL hT t 41 ht) ?_ ?_<;>simp only[tt,seval,PB]
   refine fun G0=>?_
   refine⟨.ag (aG (bR 7 not ((Expr.mk k1 p1 n1 v1 q1 m1 ks1 ss1)::l) []).row [G0::(Ek++Es++Fl),[]]),[PB L (must (bt L t 41) t)],⟨⟨_,_,rfl⟩,rfl⟩,am ?_⟩
   simp only[tt,seval,fW,PB,bR,zVal,z0,al,aG]
   first|done|exact mT
theorem wL (k:Int):Cl Tryz.prog 374 [vi k] [] fun r _=>r = .ag (ar (Val.mk 1 k z0).row):=by
 refine ai ac false Tryz.func374 rfl ae ?_
 simp only[Tryz.f374,tt,seval]
 refine⟨.ag (ar (Val.mk 1 k z0).row),[],rfl,am ?_⟩
 simp only[tt,seval,Val.row,z0,fW]
theorem uz (s:ByteArray):Cl Tryz.prog 375 [vs s] [] fun r _=>r = .ag (ar (Val.mk 2 0 s).row):=by
 refine ai ac false Tryz.func375 rfl ae ?_
 simp only[Tryz.f375,tt,seval]
 refine⟨.ag (ar (Val.mk 2 0 s).row),[],rfl,am ?_⟩
 simp only[tt,seval,Val.row]
theorem uA:Cl Tryz.prog 376 [vb true] [] fun r _=>r = .ag (ar (Val.mk 3 1 z0).row):=by
 refine ai ac false Tryz.func376 rfl ae ?_
 simp only[Tryz.f376,tt,seval]
 refine⟨.ag (ar (Val.mk 3 1 z0).row),[],rfl,am ?_⟩
 simp only[tt,seval,Val.row,z0,fW]
theorem uB:Cl Tryz.prog 376 [vb false] [] fun r _=>r = .ag (ar (Val.mk 3 0 z0).row):=by
 refine ai ac false Tryz.func376 rfl ae ?_
 simp only[Tryz.f376,tt,seval]
 refine⟨.ag (ar (Val.mk 3 0 z0).row),[],rfl,am ?_⟩
 simp only[tt,seval,Val.row,z0,fW]
set_option maxHeartbeats 4000000 in
theorem yl (L:List Tok) (hL:L.length<=1048576) (hT:∀t∈L,t.text.size<=1048576) {f:Nat->PM Expr} {q:PM Query} (ok1:OkM (L:=L) (f 1)) (okq:OkM (L:=L) q) (hf:iM L 171 (f 1)) (hq:Iw L 101 q):iM L 372 (dk L f q):=by
 intro s e s' h ha
 have hts:=ki hL hT s
 unfold dk at h
 simp only at h
 refine ai ac true Tryz.func372 rfl ae ?_
 simp only[Tryz.f372,tt,seval]
 refine cS (jN L hL hT s 3 ha) ?_ ?_<;>simp only[tt,seval,PB]
 cases c3:iZ L s 3 with
 |true=>
  rw[if_pos c3] at h
  injection h with h;injection h with h1 h2;subst h1 h2
  simp only[tt,seval]
  refine cS (jg L hL hT s ha) ?_ ?_<;>simp only[tt,seval,PB]
  have hn:mNum L s=(fG (bv L s),adv s):=by unfold mNum;rw[kl c3]
  rw[hn]
  refine cZ (wL (fG (bv L s))) ?_ ?_<;>simp only[tt,seval,Val.row]
  have cl:=rx ⟨1,fG (bv L s),z0⟩
  refine cZ (cl) ?_ ?_<;>simp only[tt,seval,fW,dj,z0,al,aG,Val.row]
  refine⟨.ag (aG (dj ⟨1,fG (bv L s),z0⟩).row [[],[]]),[PB L (adv s)],⟨⟨[],[],rfl⟩,rfl⟩,am ?_⟩
  simp only[tt,seval,PB,dj,z0,al,aG]
  first|done|exact BR
 |false=>
 rw[if_neg (by rw[c3];simp)] at h
 simp only[tt,seval]
 refine cS (jN L hL hT s 4 ha) ?_ ?_<;>simp only[tt,seval,PB]
 cases c4:iZ L s 4 with
 |true=>
  rw[if_pos c4] at h
  injection h with h;injection h with h1 h2;subst h1 h2
  simp only[tt,seval]
  refine cS (eQ L hL hT s 4 ha) ?_ ?_<;>simp only[tt,seval,PB]
  rw[kl c4]
  refine cZ (uz (bv L s)) ?_ ?_<;>simp only[tt,seval,Val.row]
  have cl:=rx ⟨2,0,bv L s⟩
  refine cZ (cl) ?_ ?_<;>simp only[tt,seval,fW,dj,z0,al,aG,Val.row]
  refine⟨.ag (aG (dj ⟨2,0,bv L s⟩).row [[],[]]),[PB L (adv s)],⟨⟨[],[],rfl⟩,rfl⟩,am ?_⟩
  simp only[tt,seval,PB,dj,z0,al,aG]
  first|done|exact BR
 |false=>
 rw[if_neg (by rw[c4];simp)] at h
 simp only[tt,seval]
 refine cS (bA L hL hT s 20 ⟨#[78,85,76,76]⟩ ae ha) ?_ ?_<;>simp only[tt,seval,PB]
 cases c20:aw L s 20 with
 |true=>
  rw[if_pos c20] at h
  injection h with h;injection h with h1 h2;subst h1 h2
  simp only[tt,seval,jq]
  have cl:=rx zVal
  refine cZ (cl) ?_ ?_<;>simp only[tt,seval,fW,dj,zVal,z0,al,aG,Val.row]
  refine⟨.ag (aG (dj zVal).row [[],[]]),[PB L (adv s)],⟨⟨[],[],rfl⟩,rfl⟩,am ?_⟩
  simp only[tt,seval,PB,dj,zVal,z0,al,aG]
  first|done|exact BR
 |false=>
 rw[if_neg (by rw[c20];simp)] at h
 simp only[tt,seval,jb]
 refine cS (bA L hL hT s 21 ⟨#[84,82,85,69]⟩ ae ha) ?_ ?_<;>simp only[tt,seval,PB]
 cases c21:aw L s 21 with
 |true=>
  rw[if_pos c21] at h
  injection h with h;injection h with h1 h2;subst h1 h2
  simp only[tt,seval,jq]
  refine cZ (uA) ?_ ?_<;>simp only[tt,seval,Val.row]
  have cl:=rx ⟨3,1,z0⟩
  refine cZ (cl) ?_ ?_<;>simp only[tt,seval,fW,dj,z0,al,aG,Val.row]
  refine⟨.ag (aG (dj ⟨3,1,z0⟩).row [[],[]]),[PB L (adv s)],⟨⟨[],[],rfl⟩,rfl⟩,am ?_⟩
  simp only[tt,seval,PB,dj,z0,al,aG]
  first|done|exact BR
 |false=>
 rw[if_neg (by rw[c21];simp)] at h
 simp only[tt,seval,jb]
 refine cS (bA L hL hT s 22 ⟨#[70,65,76,83,69]⟩ ae ha) ?_ ?_<;>simp only[tt,seval,PB]
 cases c22:aw L s 22 with
 |true=>
  rw[if_pos c22] at h
  injection h with h;injection h with h1 h2;subst h1 h2
  simp only[tt,seval,jq]
  refine cZ (uB) ?_ ?_<;>simp only[tt,seval,Val.row]
  have cl:=rx ⟨3,0,z0⟩
  refine cZ (cl) ?_ ?_<;>simp only[tt,seval,fW,dj,z0,al,aG,Val.row]
  refine⟨.ag (aG (dj ⟨3,0,z0⟩).row [[],[]]),[PB L (adv s)],⟨⟨[],[],rfl⟩,rfl⟩,am ?_⟩
  simp only[tt,seval,PB,dj,z0,al,aG]
  first|done|exact BR
 |false=>
 rw[if_neg (by rw[c22];simp)] at h
 simp only[tt,seval,jb]
 refine cS (jN L hL hT s 2 ha) ?_ ?_<;>simp only[tt,seval,PB]
 cases c2:iZ L s 2 with
 |true=>
  rw[if_pos c2] at h
  simp only[tt,seval]
  refine cS (eQ L hL hT s 2 ha) ?_ ?_<;>simp only[tt,seval,PB]
  rw[kl c2]
  simp only[seval]
  have ha1:=bo (L:=L) (gL c2)
  refine cS (dx L hL hT (adv s) 46 ha1) ?_ ?_<;>simp only[tt,seval,PB]
  cases cd:bt L (adv s) 46 with
  |true=>
   rw[if_pos cd] at h
   injection h with h;injection h with h1 h2;subst h1 h2
   simp only[tt,seval,jq]
   refine cS (eQ L hL hT (adv (adv s)) 2 (bo (aK cd))) ?_ ?_<;>simp only[tt,seval,PB]
   refine⟨.ag (aG (lg (bv L s) (mText L 2 (adv (adv s))).1).row [[],[]]),[PB L ((mText L 2 (adv (adv s))).2)],⟨⟨[],[],rfl⟩,rfl⟩,am ?_⟩
   simp only[tt,seval,fW,PB,lg,zVal,al,aG]
   first|done|exact BR
  |false=>
   rw[if_neg (by rw[cd];simp)] at h
   injection h with h;injection h with h1 h2;subst h1 h2
   simp only[tt,seval,jb]
   refine⟨.ag (aG (lg z0 (bv L s)).row [[],[]]),[PB L (adv s)],⟨⟨[],[],rfl⟩,rfl⟩,am ?_⟩
   simp only[tt,seval,fW,PB,lg,zVal,z0,al,aG]
   first|done|exact BR
 |false=>
 rw[if_neg (by rw[c2];simp)] at h
 simp only[tt,seval]
 refine cS (dx L hL hT s 40 ha) ?_ ?_<;>simp only[tt,seval,PB]
 cases cl:bt L s 40 with
 |true=>
  rw[if_pos cl] at h
  have ha1:=bo (L:=L) (aK cl)
  split at h
  ·cases h
  rename_i x t hx
  injection h with h;injection h with h1 h2;subst h1 h2
  have o2:=ok1 _ _ _ hx
  obtain⟨k1,p1,n1,v1,q1,m1,ks1,ss1⟩:=x
  have c:=hf _ _ _ hx ha1
  rw[al] at c
  simp only[tt,seval,jq]
  refine CallQ.intro (c) ?_ ?_ ?_
  ·decide
  ·simp only[tt,seval,PB]
  rintro r os ⟨⟨Fk,Fs,rfl⟩,rfl⟩ hos
  simp only[tt,seval,PB,aG]
  refine cS (fx L hL hT t 41 (o2.2.1 ha1)) ?_ ?_<;>simp only[tt,seval,PB]
  refine⟨.ag (aG ((Expr.mk k1 p1 n1 v1 q1 m1 ks1 ss1)).row [Fk,Fs]),[PB L (must (bt L t 41) t)],⟨⟨Fk,Fs,by first|rfl|simp only[rW,aG,Val.row,lc]⟩,rfl⟩,am ?_⟩
  simp only[tt,seval,PB,al,aG]
  first|done|exact mT
 |false=>
 rw[if_neg (by rw[cl];simp)] at h
 simp only[tt,seval,jb]
 refine cS (bA L hL hT s 19 ⟨#[69,88,73,83,84,83]⟩ ae ha) ?_ ?_<;>simp only[tt,seval,PB]
 cases c19:aw L s 19 with
 |true=>
  rw[if_pos c19] at h
  simp only[tt,seval,jq]
  have ha1:=bo (L:=L) (aA c19)
  have o1:Ok L (adv s) (must (bt L (adv s) 40) (adv s)):=Ok.must fun h=>aK h
  refine cS (fx L hL hT (adv s) 40 ha1) ?_ ?_<;>simp only[tt,seval,PB]
  split at h
  ·cases h
  rename_i x t hx
  injection h with h;injection h with h1 h2;subst h1 h2
  have o2:=okq _ _ _ hx
  obtain⟨d,its,frs,whs,ods,lim⟩:=x
  have c:=hq _ _ _ hx (o1.2.1 ha1)
  rw[aF] at c
  refine CallQ.intro (c) ?_ ?_ ?_
  ·decide
  ·simp only[tt,seval,PB]
  rintro r os ⟨⟨Fi,Ff,Fw,Fo,rfl⟩,rfl⟩ hos
  simp only[tt,seval,PB,aG]
  refine cS (fx L hL hT t 41 (o2.2.1 (o1.2.1 ha1))) ?_ ?_<;>simp only[tt,seval,PB]
  refine fun G0=>?_
  refine⟨.ag (aG (bR 9 false [] [(Query.mk d its frs whs ods lim)]).row [[],G0::(Fi++(Ff++(Fw++Fo)))]),[PB L (must (bt L t 41) t)],⟨⟨_,_,rfl⟩,rfl⟩,am ?_⟩
  simp only[tt,seval,fW,PB,bR,zVal,z0,al,aF,aG]
  first|done|exact mT
 |false=>
  rw[if_neg (by rw[c19];simp)] at h
  injection h with h;injection h with h1 h2;subst h1 h2
  simp only[tt,seval,jb,fl]
  refine⟨.ag (aG (zExpr).row [[],[]]),[PB L (fl s)],⟨⟨[],[],rfl⟩,rfl⟩,am ?_⟩
  simp only[tt,seval,fl,fW,PB,zExpr,zVal,z0,al,aG]
  first|done|exact BR
end Go.Proofs.YtbodcedhmccenaaGreatDoor
