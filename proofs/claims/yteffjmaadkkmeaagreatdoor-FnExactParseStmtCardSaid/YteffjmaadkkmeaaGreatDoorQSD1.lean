/-
  The program's parser, first half.
  Conditions: none.
-/
import Derived.Test.YteffjmaadkkmeaaGreatDoorQSC1
set_option linter.unusedVariables false
set_option linter.unusedSimpArgs false
set_option linter.unusedSectionVars false
set_option maxRecDepth 8000
namespace Go.Proofs.YteffjmaadkkmeaaGreatDoor
open Go Go.Dv
open Go.Vc (D eb ec dK bN)
theorem qM (L:List Tok) (hL:L.length≤1048576) (hT:∀t∈L,t.text.size≤1048576) (s:PS) (k:Nat) (kind:Nat) (x:ByteArray) (hk:k≤100) (ha:s.a≤L.length):Cl Tryz.prog 165 [.c (.p 9000 0),vi k,vi kind,vs x] [PB L s] fun r os=>r=vb (ll L s k kind x)∧os=[PB L s]:=by
 obtain⟨a,b⟩:=s
 have ha:a≤L.length:=ha
 have hw:IntKind.i64.wrap ((a:Int)+k)=((a+k:Nat):Int):=ak (n:=(a:Int)+k) (by omega) (by omega)
 cases b with
 |true=>
  have e:ll L ⟨a,true⟩ k kind x=false:=rfl
  rw[e]
  refine ab aa false Tryz.func165 rfl (by kernel_rfl) ?_
  simp only[Tryz.f165,tt,seval]
  simp only[tt,seval,PB,hw]
  refine⟨_,[PB L ⟨a,true⟩],⟨rfl,rfl⟩,aj ?_⟩
  simp only[tt,seval,PB]
 |false=>
  refine ab aa false Tryz.func165 rfl (by kernel_rfl) ?_
  simp only[Tryz.f165,tt,seval]
  simp only[tt,seval,PB,hw]
  refine fun _=>?_
  by_cases hlt:a+k<L.length
  ·have h1:decide (((a+k:Nat):Int)<(L.length:Int))=true:=decide_eq_true (by omega)
   have hx:L[a+k]?=some L[a+k]:=List.getElem?_eq_getElem hlt
   have e:ll L ⟨a,false⟩ k kind x=(decide (L[a+k].kind=kind)&&decide (L[a+k].text=x)):=by
    unfold ll jz
    simp only[Bool.false_eq_true,if_false,hx]
   have i0:((0:Int)≤((a+k:Nat):Int))=True:=eq_true (by omega)
   have iL:(((a+k:Nat):Int)<(L.length:Int))=True:=eq_true (by omega)
   have iT:(a+k<L.length)=True:=eq_true hlt
   rw[e]
   generalize L[a+k]=tk at *
   generalize a+k=j at *
   simp only[tt,seval,h1,aN hx Tok.row_len,i0,iL,iT,Tok.row]
   cases hk1:decide (tk.kind=(kind:Int)) with
   |true=>
    simp only[tt,seval,hk1,aN hx Tok.row_len,i0,iL,iT,Tok.row]
    trace_state
    refine⟨_,[PB L ⟨a,false⟩],⟨rfl,rfl⟩,aj ?_⟩
    simp only[tt,seval,PB]
   |false=>
    simp only[tt,seval,hk1,aN hx Tok.row_len,i0,iL,iT,Tok.row]
    trace_state
    refine⟨_,[PB L ⟨a,false⟩],⟨rfl,rfl⟩,aj ?_⟩
    simp only[tt,seval,PB]
  ·have h1:decide (((a+k:Nat):Int)<(L.length:Int))=false:=decide_eq_false (by omega)
   have e:ll L ⟨a,false⟩ k kind x=false:=by
    unfold ll jz
    simp only[Bool.false_eq_true,if_false,List.getElem?_eq_none_iff.2 (show L.length≤a+k by omega)]
   rw[e]
   simp only[tt,seval,h1]
   refine⟨_,[PB L ⟨a,false⟩],⟨rfl,rfl⟩,aj ?_⟩
   simp only[tt,seval,PB]
theorem kg (L:List Tok) (hL:L.length≤1048576) (hT:∀t∈L,t.text.size≤1048576) (s:PS) (k:Nat) (ha:s.a≤L.length):Cl Tryz.prog 164 [.c (.p 9000 0),vi k] [PB L s] fun r os=>r=vb (nz L s k)∧os=[PB L s]:=by
 obtain⟨a,b⟩:=s
 have ha:a≤L.length:=ha
 cases b with
 |true=>
  have e:nz L ⟨a,true⟩ k=false:=rfl
  rw[e]
  refine ab aa false Tryz.func164 rfl (by kernel_rfl) ?_
  simp only[Tryz.f164,tt,seval]
  refine dDrawn.intro [] (gG [0,2,4,6,8,10,12,14,16,18,20,22,24,26,28,30,32,34,36,38,40,42,44,46,48,50,52,54,56,58,60,62,64,66,68,70,72,74,76,78,80,82,84,87,88,90]) (by kernel_rfl) ?_
  simp only[tt,seval]
  simp only[tt,seval,PB]
  refine⟨_,[PB L ⟨a,true⟩],⟨rfl,rfl⟩,aj ?_⟩
  simp only[tt,seval,PB]
 |false=>
  refine ab aa false Tryz.func164 rfl (by kernel_rfl) ?_
  simp only[Tryz.f164,tt,seval]
  refine dDrawn.intro [] (gG [0,2,4,6,8,10,12,14,16,18,20,22,24,26,28,30,32,34,36,38,40,42,44,46,48,50,52,54,56,58,60,62,64,66,68,70,72,74,76,78,80,82,84,87,88,90]) (by kernel_rfl) ?_
  simp only[tt,seval]
  simp only[tt,seval,PB]
  refine fun _=>?_
  by_cases hlt:a<L.length
  ·have h1:decide ((a:Int)<(L.length:Int))=true:=decide_eq_true (by omega)
   have hx:L[a]?=some L[a]:=List.getElem?_eq_getElem hlt
   have ht:=hT L[a] (List.getElem_mem hlt)
   have e:nz L ⟨a,false⟩ k=(decide (L[a].kind=k)&&cj L[a]):=by
    unfold nz jz
    simp only[Bool.false_eq_true,if_false,Nat.add_zero,hx]
   have i0:((0:Int)≤(a:Int))=True:=eq_true (by omega)
   have iL:((a:Int)<(L.length:Int))=True:=eq_true (by omega)
   have iT:(a<L.length)=True:=eq_true hlt
   rw[e]
   generalize L[a]=tk at *
   simp only[tt,seval,h1,aN hx Tok.row_len,i0,iL,iT,Tok.row]
   cases hk1:decide (tk.kind=(k:Int)) with
   |true=>
    simp only[tt,seval,hk1,aN hx Tok.row_len,i0,iL,iT,Tok.row]
    refine cZ (ed tk ht) (by decide) ?_ ?_<;>simp only[tt,seval,Tok.row]
    refine⟨_,[PB L ⟨a,false⟩],⟨rfl,rfl⟩,aj ?_⟩
    simp only[tt,seval,PB]
   |false=>
    simp only[tt,seval,hk1]
    refine⟨_,[PB L ⟨a,false⟩],⟨rfl,rfl⟩,aj ?_⟩
    simp only[tt,seval,PB]
  ·have h1:decide ((a:Int)<(L.length:Int))=false:=decide_eq_false (by omega)
   have e:nz L ⟨a,false⟩ k=false:=by
    unfold nz jz
    simp only[Bool.false_eq_true,if_false,Nat.add_zero,List.getElem?_eq_none_iff.2 (show L.length≤a by omega)]
   rw[e]
   simp only[tt,seval,h1]
   refine⟨_,[PB L ⟨a,false⟩],⟨rfl,rfl⟩,aj ?_⟩
   simp only[tt,seval,PB]
theorem qN (L:List Tok) (hL:L.length≤1048576) (hT:∀t∈L,t.text.size≤1048576) (s:PS) (k:Nat) (w:ByteArray) (hw:w=kw k) (ha:s.a≤L.length):Cl Tryz.prog 114 [.c (.p 9000 0),vs w] [PB L s] fun r os=>r=vb (al L s k)∧os=[PB L s]:=by
 subst hw
 rw[show al L s k=ll L s 0 1 (kw k) from rfl]
 refine ab aa false Tryz.func114 rfl (by kernel_rfl) ?_
 simp only[Tryz.f114,tt,seval]
 refine cS (qM L hL hT s 0 1 (kw k) (by omega) ha) (by decide) ?_ ?_<;>simp only[tt,seval,PB]
 refine⟨_,[PB L s],⟨rfl,rfl⟩,aj ?_⟩
 simp only[tt,seval,PB]
theorem zF (L:List Tok) (hL:L.length≤1048576) (hT:∀t∈L,t.text.size≤1048576) (s:PS) (c:UInt8) (ha:s.a≤L.length):Cl Tryz.prog 167 [.c (.p 9000 0),vs ⟨#[c]⟩] [PB L s] fun r os=>r=vb (be L s c)∧os=[PB L s]:=by
 rw[show be L s c=ll L s 0 5 ⟨#[c]⟩ from rfl]
 refine ab aa false Tryz.func167 rfl (by kernel_rfl) ?_
 simp only[Tryz.f167,tt,seval]
 refine cS (qM L hL hT s 0 5 ⟨#[c]⟩ (by omega) ha) (by decide) ?_ ?_<;>simp only[tt,seval,PB]
 refine⟨_,[PB L s],⟨rfl,rfl⟩,aj ?_⟩
 simp only[tt,seval,PB]
theorem bv (L:List Tok) (hL:L.length≤1048576) (hT:∀t∈L,t.text.size≤1048576) (s:PS) (k:Nat) (w:ByteArray) (hw:w=kw k) (ha:s.a≤L.length):Cl Tryz.prog 102 [.c (.p 9000 0),vs w] [PB L s] fun r os=>r=vb (al L s k)∧os=[PB L (tkIf (al L s k) s)]:=by
 refine ab aa false Tryz.func102 rfl (by kernel_rfl) ?_
 simp only[Tryz.f102,tt,seval]
 refine cS (qN L hL hT s k w hw ha) (by decide) ?_ ?_<;>simp only[tt,seval,PB]
 cases c:al L s k with
 |true=>
  have hlt:=(ao c).2
  simp only[tt,seval]
  rw[ak (n:=(s.a:Int)+1) (by omega) (by omega)]
  try simp only[tt,seval]
  refine⟨_,[PB L (adv s)],⟨rfl,rfl⟩,aj ?_⟩
  simp only[tt,seval,PB,adv]
  omega
 |false=>
  simp only[tt,seval,Bool.false_eq_true]
  refine⟨_,[PB L s],⟨rfl,rfl⟩,aj ?_⟩
  simp only[tt,seval,PB]
theorem da (L:List Tok) (hL:L.length≤1048576) (hT:∀t∈L,t.text.size≤1048576) (s:PS) (c:UInt8) (ha:s.a≤L.length):Cl Tryz.prog 104 [.c (.p 9000 0),vs ⟨#[c]⟩] [PB L s] fun r os=>r=vb (be L s c)∧os=[PB L (tkIf (be L s c) s)]:=by
 refine ab aa false Tryz.func104 rfl (by kernel_rfl) ?_
 simp only[Tryz.f104,tt,seval]
 refine cS (zF L hL hT s c ha) (by decide) ?_ ?_<;>simp only[tt,seval,PB]
 cases c:be L s c with
 |true=>
  have hlt:=(az c).2
  simp only[tt,seval]
  rw[ak (n:=(s.a:Int)+1) (by omega) (by omega)]
  try simp only[tt,seval]
  refine⟨_,[PB L (adv s)],⟨rfl,rfl⟩,aj ?_⟩
  simp only[tt,seval,PB,adv]
  omega
 |false=>
  simp only[tt,seval,Bool.false_eq_true]
  refine⟨_,[PB L s],⟨rfl,rfl⟩,aj ?_⟩
  simp only[tt,seval,PB]
theorem eg (L:List Tok) (hL:L.length≤1048576) (hT:∀t∈L,t.text.size≤1048576) (s:PS) (k:Nat) (w:ByteArray) (hw:w=kw k) (ha:s.a≤L.length):Cl Tryz.prog 101 [.c (.p 9000 0),vs w] [PB L s] fun r os=>r = .tu []∧os=[PB L (must (al L s k) s)]:=by
 refine ab aa false Tryz.func101 rfl (by kernel_rfl) ?_
 simp only[Tryz.f101,tt,seval]
 refine cS (bv L hL hT s k w hw ha) (by decide) ?_ ?_<;>simp only[tt,seval,PB]
 cases c:al L s k with
 |true=>
  simp only[tt,seval,di,cT,Bool.not_true,Bool.false_eq_true]
  refine⟨_,[PB L (adv s)],⟨rfl,rfl⟩,aj ?_⟩
  simp only[tt,seval,PB]
 |false=>
  simp only[tt,seval,dj,dr,Bool.not_false]
  refine⟨_,[PB L (fl s)],⟨rfl,rfl⟩,aj ?_⟩
  simp only[tt,seval,PB,fl]
theorem dY (L:List Tok) (hL:L.length≤1048576) (hT:∀t∈L,t.text.size≤1048576) (s:PS) (c:UInt8) (ha:s.a≤L.length):Cl Tryz.prog 171 [.c (.p 9000 0),vs ⟨#[c]⟩] [PB L s] fun r os=>r = .tu []∧os=[PB L (must (be L s c) s)]:=by
 refine ab aa false Tryz.func171 rfl (by kernel_rfl) ?_
 simp only[Tryz.f171,tt,seval]
 refine cS (da L hL hT s c ha) (by decide) ?_ ?_<;>simp only[tt,seval,PB]
 cases c:be L s c with
 |true=>
  simp only[tt,seval,di,cT,Bool.not_true,Bool.false_eq_true]
  refine⟨_,[PB L (adv s)],⟨rfl,rfl⟩,aj ?_⟩
  simp only[tt,seval,PB]
 |false=>
  simp only[tt,seval,dj,dr,Bool.not_false]
  refine⟨_,[PB L (fl s)],⟨rfl,rfl⟩,aj ?_⟩
  simp only[tt,seval,PB,fl]
theorem db (L:List Tok) (hL:L.length≤1048576) (hT:∀t∈L,t.text.size≤1048576) (s:PS) (k:Nat) (ha:s.a≤L.length):Cl Tryz.prog 115 [.c (.p 9000 0),vi k] [PB L s] fun r os=>r=vs (mText L k s).1∧os=[PB L (mText L k s).2]:=by
 refine ab aa false Tryz.func115 rfl (by kernel_rfl) ?_
 simp only[Tryz.f115,tt,seval]
 refine cS (kg L hL hT s k ha) (by decide) ?_ ?_<;>simp only[tt,seval,PB]
 cases c:nz L s k with
 |true=>
  obtain⟨hb,hlt⟩:=i6 c
  rw[kD c]
  simp only[tt,seval,Bool.not_true,Bool.false_eq_true]
  rw[ak (n:=(s.a:Int)+1) (by omega) (by omega)]
  try simp only[tt,seval]
  refine dDrawn.intro [] (gG [0,2,4,6,8,10,12,14,16,18,20,22,24]) (by kernel_rfl) ?_
  simp only[tt,seval]
  try simp only[tt,seval]
  have e1:IntKind.i64.wrap ((s.a:Int)+1-1)=s.a:=by rw[ak (n:=(s.a:Int)+1-1) (by omega) (by omega)];omega
  have hx:L[s.a]?=some L[s.a]:=List.getElem?_eq_getElem hlt
  have e2:cH L s=L[s.a].text:=by
   unfold cH jz
   rw[hb]
   simp only[Bool.false_eq_true,if_false,Nat.add_zero,hx]
  have i0:((0:Int)≤(s.a:Int))=True:=eq_true (by omega)
  have iL:((s.a:Int)<(L.length:Int))=True:=eq_true (by omega)
  have iT:(s.a<L.length)=True:=eq_true hlt
  rw[e2]
  generalize L[s.a]=tk at *
  simp only[tt,seval,e1,aN hx Tok.row_len,i0,iL,iT,Tok.row]
  refine⟨_,[PB L (adv s)],⟨rfl,rfl⟩,aj ?_⟩
  simp only[tt,seval,PB,adv]
  omega
 |false=>
  have e:mText L k s=(⟨#[]⟩,fl s):=by rw[mText,if_neg (by rw[c];simp)]
  rw[e]
  simp only[tt,seval,Bool.not_false]
  refine⟨vs ⟨#[]⟩,[PB L (fl s)],⟨rfl,rfl⟩,aj ?_⟩
  simp only[tt,seval,PB,fl]
theorem jH (L:List Tok) (hL:L.length≤1048576) (hT:∀t∈L,t.text.size≤1048576) (s:PS) (ha:s.a≤L.length):Cl Tryz.prog 108 [.c (.p 9000 0)] [PB L s] fun r os=>r=vi (mNum L s).1∧os=[PB L (mNum L s).2]:=by
 have hsz:(mText L 3 s).1.size≤1048576:=by
  unfold mText
  split
  ·exact kB hL hT s
  ·exact Nat.zero_le _
 have e:mNum L s=(ku (mText L 3 s).1,(mText L 3 s).2):=rfl
 rw[e]
 refine ab aa false Tryz.func108 rfl (by kernel_rfl) ?_
 simp only[Tryz.f108,tt,seval]
 refine cS (db L hL hT s 3 ha) (by decide) ?_ ?_<;>simp only[tt,seval,PB]
 generalize (mText L 3 s).1=x at *
 refine cZ (rZ x hsz) (by decide) ?_ ?_<;>simp only[tt,seval,mp]
 refine⟨_,[PB L (mText L 3 s).2],⟨rfl,rfl⟩,aj ?_⟩
 simp only[tt,seval,PB]
theorem xg (L:List Tok) (hL:L.length≤1048576) (hT:∀t∈L,t.text.size≤1048576) (s:PS) (ha:s.a≤L.length):Cl Tryz.prog 43 [.c (.p 9000 0)] [PB L s] fun r os=>r=vi (iQ L s)∧os=[PB L s]:=by
 refine ab aa false Tryz.func43 rfl (by kernel_rfl) ?_
 simp only[Tryz.f43,tt,seval]
 refine dDrawn.intro [] (gG [0,2,4,6,8,10,12,14,16,18,20,22,24,26,28,30]) (by kernel_rfl) ?_
 simp only[tt,seval]
 simp only[tt,seval,PB]
 cases hb:s.b with
 |true=>
  have e:iQ L s=s.a:=if_neg (by rw[hb];simp)
  rw[e]
  simp only[tt,seval]
  exact⟨_,_,⟨rfl,rfl⟩,aj (by simp only[tt,seval])⟩
 |false=>
  simp only[tt,seval]
  refine fun _=>And.intro (fun he=>?_) (fun he=>?_)
  ·have e:iQ L s=s.a:=if_neg (by omega)
   rw[e]
   exact⟨_,_,⟨rfl,rfl⟩,aj (by simp only[tt,seval])⟩
  ·have e:iQ L s = -1:=if_pos ⟨hb,by omega⟩
   rw[e]
   exact⟨_,_,⟨rfl,rfl⟩,aj (by simp only[tt,seval])⟩
theorem yx (L:List Tok) (hL:L.length≤1048576) (hT:∀t∈L,t.text.size≤1048576) (s:PS) (ha:s.a≤L.length):Cl Tryz.prog 166 [.c (.p 9000 0)] [PB L s] fun r os=>r=vs (asM L s).1∧os=[PB L (asM L s).2]:=by
 refine ab aa false Tryz.func166 rfl (by kernel_rfl) ?_
 simp only[Tryz.f166,tt,seval]
 refine cS (bv L hL hT s 12 ⟨#[65,83]⟩ (by kernel_rfl) ha) (by decide) ?_ ?_<;>simp only[tt,seval,PB]
 cases c:al L s 12 with
 |true=>
  have hm:asM L s=mText L 2 (adv s):=by rw[asM,if_pos c]
  rw[hm]
  simp only[tt,seval,di,dj,cT,dr]
  refine cS (db L hL hT (adv s) 2 (bd (ao c))) (by decide) ?_ ?_<;>simp only[tt,seval,PB]
  refine⟨_,[PB L (mText L 2 (adv s)).2],⟨rfl,rfl⟩,aj ?_⟩
  simp only[tt,seval,PB]
 |false=>
  have hm:asM L s=(z0,s):=by rw[asM,if_neg (by rw[c];simp)]
  rw[hm]
  simp only[tt,seval,di,dj,cT,dr,Bool.false_eq_true]
  refine⟨vs z0,[PB L s],⟨rfl,rfl⟩,aj ?_⟩
  simp only[tt,seval,PB,z0]
def j1 (n:Nat):List D:=[.lit (.int .i64 n)]
theorem Bp (n:Nat):(j1 n).length=1:=rfl
theorem sC (L:List Tok) (hL:L.length≤1048576) (hT:∀t∈L,t.text.size≤1048576) (s:PS) (ops:List Nat) (hn:ops.length≤100) (ho:∀op∈ops,1≤op∧op≤100) (ha:s.a≤L.length):Cl Tryz.prog 158 [.c (.p 9000 0),.c (.sl ops.length (ops.flatMap j1) none)] [PB L s] fun r os=>r=vi (kv L s ops)∧os=[PB L (tkIf (decide (kv L s ops≠0)) s)]:=by
 refine ab aa false Tryz.func158 rfl (by kernel_rfl) ?_
 simp only[Tryz.f158,tt,seval]
 refine fun _=>?_
 refine dLoop.intro (fun f Lo p=>∃i:Nat,f 10=vi i∧i≤ops.length∧kv L s (ops.drop i)=kv L s ops∧Lo=[(9000,.str (PB L s))]∧p=none) (fun f _ _=>(ops.length-bn (f 10)).toNat) [(9000,.str (PB L s))] none ⟨SubO.cons rfl (SubO.nil _),PoSub.none _,?_⟩ ?_
 ·simp only[tt,seval]
  exact⟨0,rfl,Nat.zero_le _,rfl⟩
 ·rintro g Lo p ⟨i,h10,hi,hin,rfl,rfl⟩
  simp only[tt,seval] at h10
  simp only[tt,seval,h10,Int.ofNat_lt]
  refine And.intro (fun hlt=>?_) (fun hge=>?_)
  ·have hlt:i<ops.length:=by omega
   have hx:ops[i]?=some ops[i]:=List.getElem?_eq_getElem hlt
   obtain⟨ho1,ho2⟩:=ho ops[i] (List.getElem_mem hlt)
   rw[List.drop_eq_getElem_cons hlt,kv] at hin
   refine⟨by omega,by omega,_,ax Bp hx,by rw[j1];simp,?_⟩
   generalize ops[i]=op at *
   simp only[tt,seval,h10,j1]
   by_cases o1:op=1
   ·have d1:decide ((op:Int)=1)=true:=decide_eq_true (by omega)
    simp only[tt,seval,h10,d1]
    have hk:mA L s op=ll L s 0 (1:Nat) (tq op):=by
     unfold mA
     first|rw[if_pos (by omega)]|rw[if_neg (by omega)]
     rfl
    rw[hk] at hin
    refine cZ (oL op) (by decide) ?_ ?_<;>simp only[tt,seval,h10]
    refine cS (qM L hL hT s 0 1 (tq op) (by omega) ha) (by decide) ?_ ?_<;>simp only[tt,seval,PB,h10]
    cases c:ll L s 0 (1:Nat) (tq op) with
    |true=>
     rw[if_pos c] at hin
     have hlt2:=(mO c).2
     rw[←hin]
     have h0:decide (op≠0)=true:=decide_eq_true (by omega)
     simp only[tt,seval,h10]
     rw[ak (n:=(s.a:Int)+1) (by omega) (by omega)]
     refine⟨vi op,[PB L (adv s)],⟨rfl,by rw[h0];rfl⟩,aj ?_⟩
     simp only[tt,seval,PB,adv]
     omega
    |false=>
     rw[if_neg (by rw[c];simp)] at hin
     simp only[tt,seval,h10,Bool.false_eq_true]
     rw[eE i (by omega)]
     exact⟨[(9000,.str (PB L s))],none,SubO.cons rfl (SubO.nil _),PoSub.none _,⟨i+1,rfl,by omega,hin,rfl,rfl⟩,by simp only[bn];omega⟩
   ·have d1:decide ((op:Int)=1)=false:=decide_eq_false (by omega)
    by_cases o2:op=2
    ·have d2:decide ((op:Int)=2)=true:=decide_eq_true (by omega)
     simp only[tt,seval,h10,d1,d2]
     have hk:mA L s op=ll L s 0 (1:Nat) (tq op):=by
      unfold mA
      first|rw[if_pos (by omega)]|rw[if_neg (by omega)]
      rfl
     rw[hk] at hin
     refine cZ (oL op) (by decide) ?_ ?_<;>simp only[tt,seval,h10]
     refine cS (qM L hL hT s 0 1 (tq op) (by omega) ha) (by decide) ?_ ?_<;>simp only[tt,seval,PB,h10]
     cases c:ll L s 0 (1:Nat) (tq op) with
     |true=>
      rw[if_pos c] at hin
      have hlt2:=(mO c).2
      rw[←hin]
      have h0:decide (op≠0)=true:=decide_eq_true (by omega)
      simp only[tt,seval,h10]
      rw[ak (n:=(s.a:Int)+1) (by omega) (by omega)]
      refine⟨vi op,[PB L (adv s)],⟨rfl,by rw[h0];rfl⟩,aj ?_⟩
      simp only[tt,seval,PB,adv]
      omega
     |false=>
      rw[if_neg (by rw[c];simp)] at hin
      simp only[tt,seval,h10,Bool.false_eq_true]
      rw[eE i (by omega)]
      exact⟨[(9000,.str (PB L s))],none,SubO.cons rfl (SubO.nil _),PoSub.none _,⟨i+1,rfl,by omega,hin,rfl,rfl⟩,by simp only[bn];omega⟩
    ·have d2:decide ((op:Int)=2)=false:=decide_eq_false (by omega)
     simp only[tt,seval,h10,d1,d2]
     have hk:mA L s op=ll L s 0 (5:Nat) (tq op):=by
      unfold mA
      first|rw[if_pos (by omega)]|rw[if_neg (by omega)]
      rfl
     rw[hk] at hin
     refine cZ (oL op) (by decide) ?_ ?_<;>simp only[tt,seval,h10]
     refine cS (qM L hL hT s 0 5 (tq op) (by omega) ha) (by decide) ?_ ?_<;>simp only[tt,seval,PB,h10]
     cases c:ll L s 0 (5:Nat) (tq op) with
     |true=>
      rw[if_pos c] at hin
      have hlt2:=(mO c).2
      rw[←hin]
      have h0:decide (op≠0)=true:=decide_eq_true (by omega)
      simp only[tt,seval,h10]
      rw[ak (n:=(s.a:Int)+1) (by omega) (by omega)]
      refine⟨vi op,[PB L (adv s)],⟨rfl,by rw[h0];rfl⟩,aj ?_⟩
      simp only[tt,seval,PB,adv]
      omega
     |false=>
      rw[if_neg (by rw[c];simp)] at hin
      simp only[tt,seval,h10,Bool.false_eq_true]
      rw[eE i (by omega)]
      exact⟨[(9000,.str (PB L s))],none,SubO.cons rfl (SubO.nil _),PoSub.none _,⟨i+1,rfl,by omega,hin,rfl,rfl⟩,by simp only[bn];omega⟩
  ·have:i=ops.length:=by omega
   subst this
   rw[List.drop_length] at hin
   have h0:kv L s ops=0:=hin.symm
   rw[h0]
   simp only[tt,seval,h10]
   exact⟨_,[PB L s],⟨rfl,rfl⟩,aj (by simp only[tt,seval,PB])⟩
end Go.Proofs.YteffjmaadkkmeaaGreatDoor
set_option maxRecDepth 8000
namespace Go.Proofs.YteffjmaadkkmeaaGreatDoor
open Go Go.Dv Go.Cv
open Go.Vc (D eb ec dK bN)
theorem Bq (op:Nat) (a b:Expr) (Ak As Bk Bs:List (List Nat)):ClT Tryz.prog 159 [vi op,.ag (ah a.row [Ak,As]),.ag (ah b.row [Bk,Bs])] [] (Ak++(As++(Bk++Bs))).flatten fun r os=>os=[]∧∃Hk Hs,r = .ag (ah (bJ op a b).row [Hk,Hs]):=by
 obtain⟨k1,p1,n1,v1,q1,m1,ks1,ss1⟩:=a
 obtain⟨k2,p2,n2,v2,q2,m2,ks2,ss2⟩:=b
 simp only[Expr.row_mk,ah,Val.row,lc]
 refine nX aa (some (Ak++(As++(Bk++Bs)))) _ (fun ps h=>by injection h with h;subst h;first|rfl|simp) Tryz.func159 rfl (by kernel_rfl) ?_
 simp only[Tryz.f159,tt,seval]
 refine fun G=>⟨_,[],⟨rfl,G::(Ak++(As++(Bk++Bs))),[],rfl⟩,aj ?_⟩
 simp only[tt,seval,rW,ah,Val.row,lc]
 first|done|((try refine⟨by omega,?_⟩);exact aA fun x=>by (try simp only[fb]);omega)
def im (L:List Tok) (fn:FuncId) (m:PM Expr):Prop:=∀s e s',m s=some (e,s')→s.a≤L.length→Cl Tryz.prog fn [.c (.p 9000 0)] [PB L s] fun r os=>(∃Fk Fs,r = .ag (ah (e).row [Fk,Fs]))∧os=[PB L s']
set_option maxHeartbeats 2000000 in
theorem gV (L:List Tok) (hL:L.length≤1048576) (hT:∀t∈L,t.text.size≤1048576) {f:PM Expr} (okf:OkM (L:=L) f) (g:FuncId) (hg:im L g f) (lv:Nat) (hn:(mq lv).length≤100) (ho:∀op∈mq lv,1≤op∧op≤100) (s:PS) (x:Expr) (s':PS) (h:(match f s with|none=>none|some (e,s1)=>du L f lv (L.length+1) e s1)=some (x,s')) (ha:s.a≤L.length):Cl Tryz.prog 92 [.c (.p 9000 0),.c (.fn g [9000] []),.c (.sl (mq lv).length ((mq lv).flatMap j1) none)] [PB L s] fun r os=>(∃Fk Fs,r = .ag (ah (x).row [Fk,Fs]))∧os=[PB L s']:=by
 split at h
 ·cases h
 rename_i e s1 he
 have ha1:=(okf _ _ _ he).2.1 ha
 have c1:=hg _ _ _ he ha
 obtain⟨k1,p1,n1,v1,q1,m1,ks1,ss1⟩:=e
 rw[Expr.row_mk] at c1
 refine ab aa true Tryz.func92 rfl (by kernel_rfl) ?_
 simp only[Tryz.f92,tt,seval]
 refine CallQ.intro (c1) ?_ ?_ ?_
 ·decide
 ·simp only[tt,seval,PB,ah,Val.row,lc]
 rintro r os ⟨⟨Fk,Fs,rfl⟩,rfl⟩ hos
 simp only[tt,seval,PB,ah,Val.row,lc]
 refine dLoop.gh [] ?_
 refine dLoop0.intro (fun f' Lo p=>∃(e:Expr) (v:PS) (n:Nat) (Ek Es:List (List Nat)),du L f lv n e v=some (x,s')∧v.a≤L.length∧Lo=[(9000,.str (PB L v)),(7,.str (ah (e).row [Ek,Es])),(6,.str [.v (.int .i64 0),.v (.int .i64 0),.v (.bool false),.v (.int .i64 0),.v (.int .i64 0),.v (.string ByteArray.empty),.v (.string ByteArray.empty),.v (.string ByteArray.empty),.v (.slice none 0 0),.v (.slice none 0 0)])]∧p=some (Ek++Es)) (fun _ Lo _=>L.length-wT Lo) [(9000,.str (PB L s1)),(7,.str (ah ((Expr.mk k1 p1 n1 v1 q1 m1 ks1 ss1)).row [Fk,Fs])),(6,.str [.v (.int .i64 0),.v (.int .i64 0),.v (.bool false),.v (.int .i64 0),.v (.int .i64 0),.v (.string ByteArray.empty),.v (.string ByteArray.empty),.v (.string ByteArray.empty),.v (.slice none 0 0),.v (.slice none 0 0)])] (some (Fk++Fs)) ⟨by rw[Expr.row_mk];exact SubO.cons rfl (SubO.cons rfl (SubO.cons rfl (SubO.nil _))),PoSub.refl _,?_⟩ ?_
 ·simp only[tt,seval]
  exact⟨(Expr.mk k1 p1 n1 v1 q1 m1 ks1 ss1),s1,L.length+1,Fk,Fs,h,ha1,rfl,rfl⟩
 ·rintro g' Lo p ⟨e,v,n,Ek,Es,hm,hv,rfl,rfl⟩
  obtain⟨k1,p1,n1,v1,q1,m1,ks1,ss1⟩:=e
  rw[Expr.row_mk]
  simp only[tt,seval,ah,Val.row,lc]
  refine cS (sC L hL hT v (mq lv) hn ho hv) (by decide) ?_ ?_<;>simp only[tt,seval,PB,ah,Val.row,lc]
  cases n with
  |zero=>cases hm
  |succ n=>
  rw[du] at hm
  have hop0:kv L v (mq lv)=dt L v lv:=rfl
  rw[hop0]
  by_cases hop:dt L v lv=0
  ·rw[if_pos hop] at hm
   injection hm with hm;injection hm with h1 h2;subst h1 h2
   have e0:decide (((dt L v lv:Nat):Int)=0)=true:=decide_eq_true (by omega)
   have e1:decide (¬dt L v lv=0)=false:=decide_eq_false (by omega)
   simp only[tt,seval,e0,e1,hop,dj,ah,Val.row,lc]
   refine⟨.ag (ah ((Expr.mk k1 p1 n1 v1 q1 m1 ks1 ss1)).row [Ek,Es]),[PB L (v)],⟨⟨Ek,Es,by first|rfl|simp only[rW,ah,Val.row,lc]⟩,rfl⟩,aj ?_⟩
   simp only[tt,seval,rW,ah,Val.row,lc]
   first|done|((try refine⟨by omega,?_⟩);exact aA fun x=>by (try simp only[fb]);omega)
  ·rw[if_neg hop] at hm
   split at hm
   ·cases hm
   rename_i z u hz
   have hav:=bd (L:=L) (eo hop)
   have o3:=okf _ _ _ hz
   have o3a:v.a+1≤u.a:=o3.1
   have hu:=o3.2.1 hav
   have hlt:=(eo hop).2
   obtain⟨k2,p2,n2,v2,q2,m2,ks2,ss2⟩:=z
   have c2:=hg _ _ _ hz hav
   rw[Expr.row_mk] at c2
   have cb:=fun Gk Gs=>Bq (dt L v lv) (Expr.mk k1 p1 n1 v1 q1 m1 ks1 ss1) (Expr.mk k2 p2 n2 v2 q2 m2 ks2 ss2) Ek Es Gk Gs
   simp only[Expr.row_mk,ah,Val.row,lc] at cb
   have e0:decide (((dt L v lv:Nat):Int)=0)=false:=decide_eq_false (by omega)
   have e0':(((dt L v lv:Nat):Int)=0)=False:=eq_false (by omega)
   have e1:decide (¬dt L v lv=0)=true:=decide_eq_true (by omega)
   simp only[tt,seval,e0,e0',e1,di,ah,Val.row,lc]
   refine dDrawn.intro [20] (.take 0 (.take 2 (.br 1 (.br 3 (.br 4 (.br 5 .done .nobr) .nobr) .nobr) (.br 3 (.take 1 (.br 4 (.br 5 .done .nobr) .nobr)) .nobr)))) (by kernel_rfl) ?_
   simp only[tt,seval]
   all_goals repeat' first|refine kf ?_ ?_|refine eB ?_ ?_
   all_goals
    refine CallQ.intro (c2) ?_ ?_ ?_
    ·decide
    ·simp only[tt,seval,PB,ah,Val.row,lc]
     try decide
    rintro r os ⟨⟨Gk,Gs,rfl⟩,rfl⟩ hos
    simp only[tt,seval,PB,ah,Val.row,lc]
   all_goals repeat' first|refine kf ?_ ?_|refine eB ?_ ?_
   all_goals
    refine vD ([]) (cb Gk Gs) ?_ ?_ ?_ ?_
    ·decide
    ·simp only[tt,seval,PB,bJ,Expr.row_mk,ah,Val.row,lc]
     try decide
    ·exact fun x=>by simp only[fb];omega
    rintro r os ⟨rfl,Hk,Hs,rfl⟩ hos
    simp only[tt,seval,PB,bJ,Expr.row_mk,ah,Val.row,lc]
   all_goals
    refine⟨[(9000,.str (PB L u)),(7,.str (ah ((bJ (dt L v lv) (Expr.mk k1 p1 n1 v1 q1 m1 ks1 ss1) (Expr.mk k2 p2 n2 v2 q2 m2 ks2 ss2))).row [Hk,Hs])),(6,.str [.v (.int .i64 0),.v (.int .i64 0),.v (.bool false),.v (.int .i64 0),.v (.int .i64 0),.v (.string ByteArray.empty),.v (.string ByteArray.empty),.v (.string ByteArray.empty),.v (.slice none 0 0),.v (.slice none 0 0)])],some (Hk++Hs),by simp only[rW,ah,Val.row,lc];exact SubO.cons rfl (SubO.cons rfl (SubO.cons rfl (SubO.nil _))),PoSub.refl _,⟨_,u,n,Hk,Hs,hm,hu,rfl,rfl⟩,?_⟩
    show L.length-((u.a:Int)).toNat<L.length-((v.a:Int)).toNat
    omega
theorem Fd:mq 1=[1]:=rfl
theorem Fg:mq 2=[2]:=rfl
theorem Fh:mq 4=[3,4,5,6,7,8]:=rfl
theorem Fj:mq 5=[9]:=rfl
theorem Fn:mq 6=[10,11]:=rfl
theorem Fq:mq 7=[12,13,14]:=rfl
set_option maxHeartbeats 1000000 in
theorem Br (L:List Tok) (hL:L.length≤1048576) (hT:∀t∈L,t.text.size≤1048576) {f:Nat→PM Expr} {q:PM Query} (ok:OkM (L:=L) (f 2)) (hg:im L 93 (f 2)):im L 42 (stepE L f q 1):=by
 intro s x s' h ha
 have h:(match f 2 s with|none=>none|some (e,s1)=>du L (f 2) 1 (L.length+1) e s1)=some (x,s'):=h
 have c1:=gV L hL hT ok 93 hg 1 (by decide) (by decide) s x s' h ha
 obtain⟨k1,p1,n1,v1,q1,m1,ks1,ss1⟩:=x
 rw[Expr.row_mk] at c1
 simp only[Fd] at c1
 refine ab aa true Tryz.func42 rfl (by kernel_rfl) ?_
 simp only[Tryz.f42,tt,seval]
 refine sj [6] ?_
 simp only[tt,seval,PB,j1,List.flatMap_cons,List.flatMap_nil,List.length_cons,List.length_nil,ah,Val.row,lc]
 refine fun G=>?_
 refine Call1.intro (c1) ?_ ?_ ?_
 ·decide
 ·simp only[tt,seval,PB,j1,List.flatMap_cons,List.flatMap_nil,List.length_cons,List.length_nil,ah,Val.row,lc]
 rintro r os ⟨⟨Fk,Fs,rfl⟩,rfl⟩ hos
 simp only[tt,seval,PB,j1,List.flatMap_cons,List.flatMap_nil,List.length_cons,List.length_nil,ah,Val.row,lc]
 refine⟨.ag (ah ((Expr.mk k1 p1 n1 v1 q1 m1 ks1 ss1)).row [Fk,Fs]),[PB L (s')],⟨⟨Fk,Fs,by first|rfl|simp only[rW,ah,Val.row,lc]⟩,rfl⟩,aj ?_⟩
 simp only[tt,seval,rW,ah,Val.row,lc]
 first|done|((try refine⟨by omega,?_⟩);exact aA fun x=>by (try simp only[fb]);omega)
set_option maxHeartbeats 1000000 in
theorem zG (L:List Tok) (hL:L.length≤1048576) (hT:∀t∈L,t.text.size≤1048576) {f:Nat→PM Expr} {q:PM Query} (ok:OkM (L:=L) (f 3)) (hg:im L 160 (f 3)):im L 93 (stepE L f q 2):=by
 intro s x s' h ha
 have h:(match f 3 s with|none=>none|some (e,s1)=>du L (f 3) 2 (L.length+1) e s1)=some (x,s'):=h
 have c1:=gV L hL hT ok 160 hg 2 (by decide) (by decide) s x s' h ha
 obtain⟨k1,p1,n1,v1,q1,m1,ks1,ss1⟩:=x
 rw[Expr.row_mk] at c1
 simp only[Fg] at c1
 refine ab aa true Tryz.func93 rfl (by kernel_rfl) ?_
 simp only[Tryz.f93,tt,seval]
 refine sj [6] ?_
 simp only[tt,seval,PB,j1,List.flatMap_cons,List.flatMap_nil,List.length_cons,List.length_nil,ah,Val.row,lc]
 refine fun G=>?_
 refine Call1.intro (c1) ?_ ?_ ?_
 ·decide
 ·simp only[tt,seval,PB,j1,List.flatMap_cons,List.flatMap_nil,List.length_cons,List.length_nil,ah,Val.row,lc]
 rintro r os ⟨⟨Fk,Fs,rfl⟩,rfl⟩ hos
 simp only[tt,seval,PB,j1,List.flatMap_cons,List.flatMap_nil,List.length_cons,List.length_nil,ah,Val.row,lc]
 refine⟨.ag (ah ((Expr.mk k1 p1 n1 v1 q1 m1 ks1 ss1)).row [Fk,Fs]),[PB L (s')],⟨⟨Fk,Fs,by first|rfl|simp only[rW,ah,Val.row,lc]⟩,rfl⟩,aj ?_⟩
 simp only[tt,seval,rW,ah,Val.row,lc]
 first|done|((try refine⟨by omega,?_⟩);exact aA fun x=>by (try simp only[fb]);omega)
set_option maxHeartbeats 1000000 in
theorem zH (L:List Tok) (hL:L.length≤1048576) (hT:∀t∈L,t.text.size≤1048576) {f:Nat→PM Expr} {q:PM Query} (ok:OkM (L:=L) (f 6)) (hg:im L 303 (f 6)):im L 266 (stepE L f q 5):=by
 intro s x s' h ha
 have h:(match f 6 s with|none=>none|some (e,s1)=>du L (f 6) 5 (L.length+1) e s1)=some (x,s'):=h
 have c1:=gV L hL hT ok 303 hg 5 (by decide) (by decide) s x s' h ha
 obtain⟨k1,p1,n1,v1,q1,m1,ks1,ss1⟩:=x
 rw[Expr.row_mk] at c1
 simp only[Fj] at c1
 refine ab aa true Tryz.func266 rfl (by kernel_rfl) ?_
 simp only[Tryz.f266,tt,seval]
 refine sj [6] ?_
 simp only[tt,seval,PB,j1,List.flatMap_cons,List.flatMap_nil,List.length_cons,List.length_nil,ah,Val.row,lc]
 refine fun G=>?_
 refine Call1.intro (c1) ?_ ?_ ?_
 ·decide
 ·simp only[tt,seval,PB,j1,List.flatMap_cons,List.flatMap_nil,List.length_cons,List.length_nil,ah,Val.row,lc]
 rintro r os ⟨⟨Fk,Fs,rfl⟩,rfl⟩ hos
 simp only[tt,seval,PB,j1,List.flatMap_cons,List.flatMap_nil,List.length_cons,List.length_nil,ah,Val.row,lc]
 refine⟨.ag (ah ((Expr.mk k1 p1 n1 v1 q1 m1 ks1 ss1)).row [Fk,Fs]),[PB L (s')],⟨⟨Fk,Fs,by first|rfl|simp only[rW,ah,Val.row,lc]⟩,rfl⟩,aj ?_⟩
 simp only[tt,seval,rW,ah,Val.row,lc]
 first|done|((try refine⟨by omega,?_⟩);exact aA fun x=>by (try simp only[fb]);omega)
set_option maxHeartbeats 1000000 in
theorem zI (L:List Tok) (hL:L.length≤1048576) (hT:∀t∈L,t.text.size≤1048576) {f:Nat→PM Expr} {q:PM Query} (ok:OkM (L:=L) (f 7)) (hg:im L 325 (f 7)):im L 303 (stepE L f q 6):=by
 intro s x s' h ha
 have h:(match f 7 s with|none=>none|some (e,s1)=>du L (f 7) 6 (L.length+1) e s1)=some (x,s'):=h
 have c1:=gV L hL hT ok 325 hg 6 (by decide) (by decide) s x s' h ha
 obtain⟨k1,p1,n1,v1,q1,m1,ks1,ss1⟩:=x
 rw[Expr.row_mk] at c1
 simp only[Fn] at c1
 refine ab aa true Tryz.func303 rfl (by kernel_rfl) ?_
 simp only[Tryz.f303,tt,seval]
 refine sj [6] ?_
 simp only[tt,seval,PB,j1,List.flatMap_cons,List.flatMap_nil,List.length_cons,List.length_nil,ah,Val.row,lc]
 refine fun G=>?_
 refine Call1.intro (c1) ?_ ?_ ?_
 ·decide
 ·simp only[tt,seval,PB,j1,List.flatMap_cons,List.flatMap_nil,List.length_cons,List.length_nil,ah,Val.row,lc]
 rintro r os ⟨⟨Fk,Fs,rfl⟩,rfl⟩ hos
 simp only[tt,seval,PB,j1,List.flatMap_cons,List.flatMap_nil,List.length_cons,List.length_nil,ah,Val.row,lc]
 refine⟨.ag (ah ((Expr.mk k1 p1 n1 v1 q1 m1 ks1 ss1)).row [Fk,Fs]),[PB L (s')],⟨⟨Fk,Fs,by first|rfl|simp only[rW,ah,Val.row,lc]⟩,rfl⟩,aj ?_⟩
 simp only[tt,seval,rW,ah,Val.row,lc]
 first|done|((try refine⟨by omega,?_⟩);exact aA fun x=>by (try simp only[fb]);omega)
set_option maxHeartbeats 1000000 in
theorem xh (L:List Tok) (hL:L.length≤1048576) (hT:∀t∈L,t.text.size≤1048576) {f:Nat→PM Expr} {q:PM Query} (ok:OkM (L:=L) (f 8)) (hg:im L 337 (f 8)):im L 325 (stepE L f q 7):=by
 intro s x s' h ha
 have h:(match f 8 s with|none=>none|some (e,s1)=>du L (f 8) 7 (L.length+1) e s1)=some (x,s'):=h
 have c1:=gV L hL hT ok 337 hg 7 (by decide) (by decide) s x s' h ha
 obtain⟨k1,p1,n1,v1,q1,m1,ks1,ss1⟩:=x
 rw[Expr.row_mk] at c1
 simp only[Fq] at c1
 refine ab aa true Tryz.func325 rfl (by kernel_rfl) ?_
 simp only[Tryz.f325,tt,seval]
 refine sj [6] ?_
 simp only[tt,seval,PB,j1,List.flatMap_cons,List.flatMap_nil,List.length_cons,List.length_nil,ah,Val.row,lc]
 refine fun G=>?_
 refine Call1.intro (c1) ?_ ?_ ?_
 ·decide
 ·simp only[tt,seval,PB,j1,List.flatMap_cons,List.flatMap_nil,List.length_cons,List.length_nil,ah,Val.row,lc]
 rintro r os ⟨⟨Fk,Fs,rfl⟩,rfl⟩ hos
 simp only[tt,seval,PB,j1,List.flatMap_cons,List.flatMap_nil,List.length_cons,List.length_nil,ah,Val.row,lc]
 refine⟨.ag (ah ((Expr.mk k1 p1 n1 v1 q1 m1 ks1 ss1)).row [Fk,Fs]),[PB L (s')],⟨⟨Fk,Fs,by first|rfl|simp only[rW,ah,Val.row,lc]⟩,rfl⟩,aj ?_⟩
 simp only[tt,seval,rW,ah,Val.row,lc]
 first|done|((try refine⟨by omega,?_⟩);exact aA fun x=>by (try simp only[fb]);omega)
set_option maxHeartbeats 1000000 in
theorem zJ (L:List Tok) (hL:L.length≤1048576) (hT:∀t∈L,t.text.size≤1048576) {f:Nat→PM Expr} {q:PM Query} (hs:im L 160 (f 3)) (hg:im L 223 (f 4)):im L 160 (stepE L f q 3):=by
 intro s x s' h ha
 have h:(if al L s 15=true then (match f 3 (adv s) with|none=>none|some (e,s1)=>some (eY 15 e,s1)) else f 4 s)=some (x,s'):=h
 refine ab aa true Tryz.func160 rfl (by kernel_rfl) ?_
 simp only[Tryz.f160,tt,seval]
 refine cS (bv L hL hT s 15 ⟨#[78,79,84]⟩ (by kernel_rfl) ha) (by decide) ?_ ?_<;>simp only[tt,seval,PB]
 cases c:al L s 15 with
 |true=>
  rw[if_pos c] at h
  split at h
  ·cases h
  rename_i e s1 he
  injection h with h;injection h with h1 h2;subst h1 h2
  obtain⟨k1,p1,n1,v1,q1,m1,ks1,ss1⟩:=e
  have c1:=hs _ _ _ he (bd (ao c))
  rw[Expr.row_mk] at c1
  simp only[tt,seval,di,dj,cT,dr]
  refine CallQ.intro (c1) ?_ ?_ ?_
  ·decide
  ·simp only[tt,seval,PB,ah,Val.row,lc]
  rintro r os ⟨⟨Fk,Fs,rfl⟩,rfl⟩ hos
  simp only[tt,seval,PB,ah,Val.row,lc]
  refine fun G=>?_
  refine⟨.ag (ah (eY 15 (Expr.mk k1 p1 n1 v1 q1 m1 ks1 ss1)).row [G::(Fk++Fs),[]]),[PB L s1],⟨⟨_,_,rfl⟩,rfl⟩,aj ?_⟩
  simp only[tt,seval,rW,ah,Val.row,lc]
  first|done|((try refine⟨by omega,?_⟩);exact aA fun x=>by (try simp only[fb]);omega)
 |false=>
  rw[if_neg (by rw[c];simp)] at h
  obtain⟨k1,p1,n1,v1,q1,m1,ks1,ss1⟩:=x
  have c1:=hg _ _ _ h ha
  rw[Expr.row_mk] at c1
  simp only[tt,seval,di,dj,cT,dr,Bool.false_eq_true]
  refine CallQ.intro (c1) ?_ ?_ ?_
  ·decide
  ·simp only[tt,seval,PB,ah,Val.row,lc]
  rintro r os ⟨⟨Fk,Fs,rfl⟩,rfl⟩ hos
  simp only[tt,seval,PB,ah,Val.row,lc]
  refine⟨.ag (ah ((Expr.mk k1 p1 n1 v1 q1 m1 ks1 ss1)).row [Fk,Fs]),[PB L (s')],⟨⟨Fk,Fs,by first|rfl|simp only[rW,ah,Val.row,lc]⟩,rfl⟩,aj ?_⟩
  simp only[tt,seval,rW,ah,Val.row,lc]
  first|done|((try refine⟨by omega,?_⟩);exact aA fun x=>by (try simp only[fb]);omega)
set_option maxHeartbeats 1000000 in
theorem zK (L:List Tok) (hL:L.length≤1048576) (hT:∀t∈L,t.text.size≤1048576) {f:Nat→PM Expr} {q:PM Query} (hs:im L 337 (f 8)) (hg:im L 348 (f 9)):im L 337 (stepE L f q 8):=by
 intro s x s' h ha
 have h:(if be L s 45=true then (match f 8 (adv s) with|none=>none|some (e,s1)=>some (eY 16 e,s1)) else f 9 s)=some (x,s'):=h
 refine ab aa true Tryz.func337 rfl (by kernel_rfl) ?_
 simp only[Tryz.f337,tt,seval]
 refine cS (da L hL hT s 45 ha) (by decide) ?_ ?_<;>simp only[tt,seval,PB]
 cases c:be L s 45 with
 |true=>
  rw[if_pos c] at h
  split at h
  ·cases h
  rename_i e s1 he
  injection h with h;injection h with h1 h2;subst h1 h2
  obtain⟨k1,p1,n1,v1,q1,m1,ks1,ss1⟩:=e
  have c1:=hs _ _ _ he (bd (az c))
  rw[Expr.row_mk] at c1
  simp only[tt,seval,di,dj,cT,dr]
  refine CallQ.intro (c1) ?_ ?_ ?_
  ·decide
  ·simp only[tt,seval,PB,ah,Val.row,lc]
  rintro r os ⟨⟨Fk,Fs,rfl⟩,rfl⟩ hos
  simp only[tt,seval,PB,ah,Val.row,lc]
  refine fun G=>?_
  refine⟨.ag (ah (eY 16 (Expr.mk k1 p1 n1 v1 q1 m1 ks1 ss1)).row [G::(Fk++Fs),[]]),[PB L s1],⟨⟨_,_,rfl⟩,rfl⟩,aj ?_⟩
  simp only[tt,seval,rW,ah,Val.row,lc]
  first|done|((try refine⟨by omega,?_⟩);exact aA fun x=>by (try simp only[fb]);omega)
 |false=>
  rw[if_neg (by rw[c];simp)] at h
  obtain⟨k1,p1,n1,v1,q1,m1,ks1,ss1⟩:=x
  have c1:=hg _ _ _ h ha
  rw[Expr.row_mk] at c1
  simp only[tt,seval,di,dj,cT,dr,Bool.false_eq_true]
  refine CallQ.intro (c1) ?_ ?_ ?_
  ·decide
  ·simp only[tt,seval,PB,ah,Val.row,lc]
  rintro r os ⟨⟨Fk,Fs,rfl⟩,rfl⟩ hos
  simp only[tt,seval,PB,ah,Val.row,lc]
  refine⟨.ag (ah ((Expr.mk k1 p1 n1 v1 q1 m1 ks1 ss1)).row [Fk,Fs]),[PB L (s')],⟨⟨Fk,Fs,by first|rfl|simp only[rW,ah,Val.row,lc]⟩,rfl⟩,aj ?_⟩
  simp only[tt,seval,rW,ah,Val.row,lc]
  first|done|((try refine⟨by omega,?_⟩);exact aA fun x=>by (try simp only[fb]);omega)
def DW (L:List Tok) (fn:FuncId) (m:PM Query):Prop:=∀s e s',m s=some (e,s')→s.a≤L.length→Cl Tryz.prog fn [.c (.p 9000 0)] [PB L s] fun r os=>(∃Fi Ff Fw Fo,r = .ag (ah (e).row [Fi,Ff,Fw,Fo]))∧os=[PB L s']
theorem qO (v:Val):Cl Tryz.prog 356 [.ag (an v.row)] [] fun r _=>r = .ag (ah (bM v).row [[],[]]):=by
 refine ab aa false Tryz.func356 rfl (by kernel_rfl) ?_
 simp only[Tryz.f356,tt,seval]
 simp only[tt,seval,Val.row]
 refine⟨.ag (ah (bM v).row [[],[]]),[],rfl,aj ?_⟩
 simp only[tt,seval,rW,ah,Val.row,lc]
set_option maxHeartbeats 2000000 in
theorem sD (L:List Tok) (hL:L.length≤1048576) (hT:∀t∈L,t.text.size≤1048576) {f:Nat→PM Expr} (ok:OkM (L:=L) (f 1)) (hg:im L 42 (f 1)) (s:PS) (x:List Expr) (s':PS) (h:kx L f s=some (x,s')) (ha:s.a≤L.length):Cl Tryz.prog 172 [.c (.p 9000 0)] [PB L s] fun r os=>(x.length≤1048580∧∃F,r = .c (.ow 29 x.length (x.flatMap Expr.row) (some F)))∧os=[PB L s']:=by
 unfold kx at h
 split at h
 ·cases h
 rename_i e s1 he
 have ha1:=(ok _ _ _ he).2.1 ha
 have c1:=hg _ _ _ he ha
 obtain⟨k1,p1,n1,v1,q1,m1,ks1,ss1⟩:=e
 rw[Expr.row_mk] at c1
 refine ab aa true Tryz.func172 rfl (by kernel_rfl) ?_
 simp only[Tryz.f172,tt,seval]
 refine CallQ.intro (c1) ?_ ?_ ?_
 ·decide
 ·simp only[tt,seval,PB,ah,Val.row,lc]
 rintro r os ⟨⟨Fk,Fs,rfl⟩,rfl⟩ hos
 simp only[tt,seval,PB,ah,Val.row,lc]
 refine dLoop.gh [.ren 6 13] ⟨by decide,by decide,?_⟩
 refine dLoop0.intro (fun f' Lo p=>∃(l:List Expr) (v:PS) (n:Nat) (Fl Pl:List (List Nat)),f' 3 = .c (.s 13 l.length)∧eD L (f 1) n l v=some (x,s')∧v.a≤L.length∧l.length≤v.a+1∧Sb Fl.flatten Pl.flatten∧Lo=[(9000,.str (PB L v)),(13,.arr 29 (l).length ((l).flatMap Expr.row) (some (Fl)))]∧p=some Pl) (fun _ Lo _=>L.length-wT Lo) [(9000,.str (PB L s1)),(13,.arr 29 ([(Expr.mk k1 p1 n1 v1 q1 m1 ks1 ss1)]).length (([(Expr.mk k1 p1 n1 v1 q1 m1 ks1 ss1)]).flatMap Expr.row) (some (Fk++Fs)))] (some (Fk++Fs)) ⟨by simp only[rW,Val.row];exact SubO.cons rfl (SubO.cons rfl (SubO.nil _)),PoSub.refl _,?_⟩ ?_
 ·simp only[tt,seval]
  exact⟨[(Expr.mk k1 p1 n1 v1 q1 m1 ks1 ss1)],s1,L.length+1,Fk++Fs,Fk++Fs,rfl,h,ha1,by simp,Sb.refl _,rfl,rfl⟩
 ·rintro g' Lo p ⟨l,v,n,Fl,Pl,h3,hm,hv,hml,hsb,rfl,rfl⟩
  simp only[tt,seval] at h3
  simp only[tt,seval,h3]
  refine cS (da L hL hT v 44 hv) (by decide) ?_ ?_<;>simp only[tt,seval,PB,h3]
  cases n with
  |zero=>cases hm
  |succ n=>
  rw[eD] at hm
  cases c44:be L v 44 with
  |true=>
   rw[if_pos c44] at hm
   split at hm
   ·cases hm
   rename_i z u hz
   have hav:=bd (L:=L) (az c44)
   have o3:=ok _ _ _ hz
   have o3a:v.a+1≤u.a:=o3.1
   have hu:=o3.2.1 hav
   have hlt:=(az c44).2
   obtain⟨k2,p2,n2,v2,q2,m2,ks2,ss2⟩:=z
   have c2:=hg _ _ _ hz hav
   rw[Expr.row_mk] at c2
   simp only[tt,seval,di,dj,cT,dr,h3]
   refine CallQ.intro (c2) ?_ ?_ ?_
   ·decide
   ·simp only[tt,seval,PB,h3,ah,Val.row,lc]
   rintro r os ⟨⟨Gk,Gs,rfl⟩,rfl⟩ hos
   simp only[tt,seval,PB,h3,ah,Val.row,lc]
   refine⟨by kernel_rfl,⟨by simp only[maxLen];omega,by omega⟩,?_⟩
   refine⟨[(9000,.str (PB L u)),(13,.arr 29 ((l++[(Expr.mk k2 p2 n2 v2 q2 m2 ks2 ss2)])).length (((l++[(Expr.mk k2 p2 n2 v2 q2 m2 ks2 ss2)])).flatMap Expr.row) (some (Fl++(Gk++Gs))))],some (Pl++(Gk++Gs)),by simp only[rW,Val.row,List.flatMap_append,List.length_append];exact SubO.cons rfl (SubO.cons rfl (SubO.nil _)),PoSub.refl _,⟨l++[(Expr.mk k2 p2 n2 v2 q2 m2 ks2 ss2)],u,n,_,_,by simp,hm,hu,by simp;omega,by simp only[List.flatten_append];exact hsb.append (Sb.refl _),rfl,rfl⟩,?_⟩
   show L.length-((u.a:Int)).toNat<L.length-((v.a:Int)).toNat
   omega
  |false=>
   rw[if_neg (by rw[c44];simp)] at hm
   injection hm with hm;injection hm with e1 e2;subst e1 e2
   simp only[tt,seval,di,dj,cT,dr,Bool.false_eq_true,h3]
   refine⟨.c (.ow 29 l.length (l.flatMap Expr.row) (some Fl)),[PB L v],⟨⟨by omega,Fl,rfl⟩,rfl⟩,aj ?_⟩
   simp only[tt,seval,PB]
   exact hsb
set_option maxHeartbeats 4000000 in
theorem Bt (L:List Tok) (hL:L.length≤1048576) (hT:∀t∈L,t.text.size≤1048576) {f:Nat→PM Expr} {q:PM Query} (ok:∀lv,OkM (L:=L) (f lv)) (okq:OkM (L:=L) q) (hor:im L 42 (f 1)) (hq:DW L 54 q) (e:Expr) (not:Bool) (Ek Es:List (List Nat)) (s:PS) (x:Expr) (s':PS) (h:wI L f q e not s=some (x,s')) (ha:s.a≤L.length):ClT Tryz.prog 267 [.c (.p 9000 0),.ag (ah e.row [Ek,Es]),vb not] [PB L s] (Ek++Es).flatten fun r os=>(∃Hk Hs,r = .ag (ah x.row [Hk,Hs]))∧os=[PB L s']:=by
 obtain⟨k1,p1,n1,v1,q1,m1,ks1,ss1⟩:=e
 unfold wI at h
 simp only at h
 simp only[Expr.row_mk,ah,Val.row,lc]
 refine nX aa (some (Ek++Es)) _ (fun ps h=>by injection h with h;subst h;first|rfl|simp) Tryz.func267 rfl (by kernel_rfl) ?_
 simp only[Tryz.f267,tt,seval]
 refine cS (dY L hL hT s 40 ha) (by decide) ?_ ?_<;>simp only[tt,seval,PB]
 have o1:Ok L s (must (be L s 40) s):=Ok.must fun h=>az h
 have ha1:=o1.2.1 ha
 generalize must (be L s 40) s=u at *
 refine cS (qN L hL hT u 1 ⟨#[83,69,76,69,67,84]⟩ (by kernel_rfl) ha1) (by decide) ?_ ?_<;>simp only[tt,seval,PB]
 cases c1:al L u 1 with
 |true=>
  rw[if_pos c1] at h
  split at h
  ·cases h
  rename_i y t hy
  injection h with h;injection h with h1 h2;subst h1 h2
  have ht:=(okq _ _ _ hy).2.1 ha1
  obtain⟨d,its,frs,whs,ods,lim⟩:=y
  have cq:=hq _ _ _ hy ha1
  rw[Query.row_mk] at cq
  simp only[tt,seval]
  refine CallQ.intro (cq) ?_ ?_ ?_
  ·decide
  ·simp only[tt,seval,PB,ah,lc]
  rintro r os ⟨⟨Fi,Ff,Fw,Fo,rfl⟩,rfl⟩ hos
  simp only[tt,seval,PB,ah,lc]
  refine cS (dY L hL hT t 41 ht) (by decide) ?_ ?_<;>simp only[tt,seval,PB]
  refine fun G0=>?_
  refine fun G1=>?_
  refine⟨.ag (ah (aZ 8 not [(Expr.mk k1 p1 n1 v1 q1 m1 ks1 ss1)] [(Query.mk d its frs whs ods lim)]).row [G0::(Ek++Es),G1::(Fi++(Ff++(Fw++Fo)))]),[PB L (must (be L t 41) t)],⟨⟨_,_,rfl⟩,rfl⟩,aj ?_⟩
  simp only[tt,seval,rW,ah,Val.row,lc]
  first|done|((try refine⟨by omega,?_⟩);exact aA fun x=>by (try simp only[fb]);omega)
 |false=>
  rw[if_neg (by rw[c1];simp)] at h
  split at h
  ·cases h
  rename_i l t hl
  injection h with h;injection h with h1 h2;subst h1 h2
  have ht:=(OkM.ors ok _ _ _ hl).2.1 ha1
  have cl:=sD L hL hT (ok 1) hor _ _ _ hl ha1
  simp only[tt,seval,Bool.false_eq_true]
  refine dDrawn.intro [24] (.take 0 (.take 2 (.br 1 (.br 3 (.br 4 (.take 5 (.br 6 .done .nobr)) .nobr) .nobr) (.br 3 (.take 1 (.br 4 (.take 5 (.br 6 .done .nobr)) .nobr)) .nobr)))) (by kernel_rfl) ?_
  simp only[tt,seval]
  all_goals repeat' first|refine kf ?_ ?_|refine eB ?_ ?_
  all_goals
   refine CallQ.intro (cl) ?_ ?_ ?_
   ·decide
   ·simp only[tt,seval,PB,ah,Val.row,lc]
    try decide
   rintro r os ⟨⟨hlen,Fl,rfl⟩,rfl⟩ hos
   simp only[tt,seval,PB,ah,Val.row,lc]
  all_goals repeat' first|refine yw ?_ ?_|refine oe ?_ ?_|refine og ?_ ?_
  all_goals
   refine⟨by kernel_rfl,aT Expr.row_len l,⟨by simp only[maxLen];omega,by omega⟩,?_⟩
   try simp only[tt,seval]
  all_goals
   refine cS (dY L hL hT t 41 ht) (by decide) ?_ ?_<;>simp only[tt,seval,PB]
   refine fun G0=>?_
   refine⟨.ag (ah (aZ 7 not ((Expr.mk k1 p1 n1 v1 q1 m1 ks1 ss1)::l) []).row [G0::(Ek++Es++Fl),[]]),[PB L (must (be L t 41) t)],⟨⟨_,_,rfl⟩,rfl⟩,aj ?_⟩
   simp only[tt,seval,rW,ah,Val.row,lc]
   first|done|((try refine⟨by omega,?_⟩);exact aA fun x=>by (try simp only[fb]);omega)
theorem vG (k:Int):Cl Tryz.prog 357 [vi k] [] fun r _=>r = .ag (an (Val.mk 1 k z0).row):=by
 refine ab aa false Tryz.func357 rfl (by kernel_rfl) ?_
 simp only[Tryz.f357,tt,seval]
 refine⟨.ag (an (Val.mk 1 k z0).row),[],rfl,aj ?_⟩
 simp only[tt,seval,Val.row,z0,Cu]
theorem tQ (s:ByteArray):Cl Tryz.prog 358 [vs s] [] fun r _=>r = .ag (an (Val.mk 2 0 s).row):=by
 refine ab aa false Tryz.func358 rfl (by kernel_rfl) ?_
 simp only[Tryz.f358,tt,seval]
 refine⟨.ag (an (Val.mk 2 0 s).row),[],rfl,aj ?_⟩
 simp only[tt,seval,Val.row,z0,Cu]
theorem tR:Cl Tryz.prog 359 [vb true] [] fun r _=>r = .ag (an (Val.mk 3 1 z0).row):=by
 refine ab aa false Tryz.func359 rfl (by kernel_rfl) ?_
 simp only[Tryz.f359,tt,seval]
 refine⟨.ag (an (Val.mk 3 1 z0).row),[],rfl,aj ?_⟩
 simp only[tt,seval,Val.row,z0,Cu]
theorem tS:Cl Tryz.prog 359 [vb false] [] fun r _=>r = .ag (an (Val.mk 3 0 z0).row):=by
 refine ab aa false Tryz.func359 rfl (by kernel_rfl) ?_
 simp only[Tryz.f359,tt,seval]
 refine⟨.ag (an (Val.mk 3 0 z0).row),[],rfl,aj ?_⟩
 simp only[tt,seval,Val.row,z0,Cu]
set_option maxHeartbeats 4000000 in
theorem xi (L:List Tok) (hL:L.length≤1048576) (hT:∀t∈L,t.text.size≤1048576) {f:Nat→PM Expr} {q:PM Query} (ok1:OkM (L:=L) (f 1)) (okq:OkM (L:=L) q) (hf:im L 42 (f 1)) (hq:DW L 54 q):im L 348 (gv L f q):=by
 intro s e s' h ha
 have hts:=kB hL hT s
 unfold gv at h
 simp only at h
 refine ab aa true Tryz.func348 rfl (by kernel_rfl) ?_
 simp only[Tryz.f348,tt,seval]
 refine cS (kg L hL hT s 3 ha) (by decide) ?_ ?_<;>simp only[tt,seval,PB]
 cases c3:nz L s 3 with
 |true=>
  rw[if_pos c3] at h
  injection h with h;injection h with h1 h2;subst h1 h2
  simp only[tt,seval]
  refine cS (jH L hL hT s ha) (by decide) ?_ ?_<;>simp only[tt,seval,PB]
  have hn:mNum L s=(ku (cH L s),adv s):=by unfold mNum;rw[kD c3]
  rw[hn]
  refine cZ (vG (ku (cH L s))) (by decide) ?_ ?_<;>simp only[tt,seval,Val.row]
  have cl:=qO ⟨1,ku (cH L s),z0⟩
  refine cZ (cl) (by decide) ?_ ?_<;>simp only[tt,seval,rW,ah,Val.row,lc]
  refine⟨.ag (ah (bM ⟨1,ku (cH L s),z0⟩).row [[],[]]),[PB L (adv s)],⟨⟨[],[],rfl⟩,rfl⟩,aj ?_⟩
  simp only[tt,seval,rW,ah,Val.row,lc]
  first|done|((try refine⟨by omega,?_⟩);exact aA fun x=>by (try simp only[fb]);omega)
 |false=>
 rw[if_neg (by rw[c3];simp)] at h
 simp only[tt,seval]
 refine cS (kg L hL hT s 4 ha) (by decide) ?_ ?_<;>simp only[tt,seval,PB]
 cases c4:nz L s 4 with
 |true=>
  rw[if_pos c4] at h
  injection h with h;injection h with h1 h2;subst h1 h2
  simp only[tt,seval]
  refine cS (db L hL hT s 4 ha) (by decide) ?_ ?_<;>simp only[tt,seval,PB]
  rw[kD c4]
  refine cZ (tQ (cH L s)) (by decide) ?_ ?_<;>simp only[tt,seval,Val.row]
  have cl:=qO ⟨2,0,cH L s⟩
  refine cZ (cl) (by decide) ?_ ?_<;>simp only[tt,seval,rW,ah,Val.row,lc]
  refine⟨.ag (ah (bM ⟨2,0,cH L s⟩).row [[],[]]),[PB L (adv s)],⟨⟨[],[],rfl⟩,rfl⟩,aj ?_⟩
  simp only[tt,seval,rW,ah,Val.row,lc]
  first|done|((try refine⟨by omega,?_⟩);exact aA fun x=>by (try simp only[fb]);omega)
 |false=>
 rw[if_neg (by rw[c4];simp)] at h
 simp only[tt,seval]
 refine cS (bv L hL hT s 20 ⟨#[78,85,76,76]⟩ (by kernel_rfl) ha) (by decide) ?_ ?_<;>simp only[tt,seval,PB]
 cases c20:al L s 20 with
 |true=>
  rw[if_pos c20] at h
  injection h with h;injection h with h1 h2;subst h1 h2
  simp only[tt,seval,di,dj,cT,dr]
  have cl:=qO dW
  refine cZ (cl) (by decide) ?_ ?_<;>simp only[tt,seval,rW,ah,Val.row,lc]
  refine⟨.ag (ah (bM dW).row [[],[]]),[PB L (adv s)],⟨⟨[],[],rfl⟩,rfl⟩,aj ?_⟩
  simp only[tt,seval,rW,ah,Val.row,lc]
  first|done|((try refine⟨by omega,?_⟩);exact aA fun x=>by (try simp only[fb]);omega)
 |false=>
 rw[if_neg (by rw[c20];simp)] at h
 simp only[tt,seval,di,dj,cT,dr,Bool.false_eq_true]
 refine cS (bv L hL hT s 21 ⟨#[84,82,85,69]⟩ (by kernel_rfl) ha) (by decide) ?_ ?_<;>simp only[tt,seval,PB]
 cases c21:al L s 21 with
 |true=>
  rw[if_pos c21] at h
  injection h with h;injection h with h1 h2;subst h1 h2
  simp only[tt,seval,di,dj,cT,dr]
  refine cZ (tR) (by decide) ?_ ?_<;>simp only[tt,seval,Val.row]
  have cl:=qO ⟨3,1,z0⟩
  refine cZ (cl) (by decide) ?_ ?_<;>simp only[tt,seval,rW,ah,Val.row,lc]
  refine⟨.ag (ah (bM ⟨3,1,z0⟩).row [[],[]]),[PB L (adv s)],⟨⟨[],[],rfl⟩,rfl⟩,aj ?_⟩
  simp only[tt,seval,rW,ah,Val.row,lc]
  first|done|((try refine⟨by omega,?_⟩);exact aA fun x=>by (try simp only[fb]);omega)
 |false=>
 rw[if_neg (by rw[c21];simp)] at h
 simp only[tt,seval,di,dj,cT,dr,Bool.false_eq_true]
 refine cS (bv L hL hT s 22 ⟨#[70,65,76,83,69]⟩ (by kernel_rfl) ha) (by decide) ?_ ?_<;>simp only[tt,seval,PB]
 cases c22:al L s 22 with
 |true=>
  rw[if_pos c22] at h
  injection h with h;injection h with h1 h2;subst h1 h2
  simp only[tt,seval,di,dj,cT,dr]
  refine cZ (tS) (by decide) ?_ ?_<;>simp only[tt,seval,Val.row]
  have cl:=qO ⟨3,0,z0⟩
  refine cZ (cl) (by decide) ?_ ?_<;>simp only[tt,seval,rW,ah,Val.row,lc]
  refine⟨.ag (ah (bM ⟨3,0,z0⟩).row [[],[]]),[PB L (adv s)],⟨⟨[],[],rfl⟩,rfl⟩,aj ?_⟩
  simp only[tt,seval,rW,ah,Val.row,lc]
  first|done|((try refine⟨by omega,?_⟩);exact aA fun x=>by (try simp only[fb]);omega)
 |false=>
 rw[if_neg (by rw[c22];simp)] at h
 simp only[tt,seval,di,dj,cT,dr,Bool.false_eq_true]
 refine cS (kg L hL hT s 2 ha) (by decide) ?_ ?_<;>simp only[tt,seval,PB]
 cases c2:nz L s 2 with
 |true=>
  rw[if_pos c2] at h
  simp only[tt,seval]
  refine cS (db L hL hT s 2 ha) (by decide) ?_ ?_<;>simp only[tt,seval,PB]
  rw[kD c2]
  simp only[tt,seval]
  have ha1:=bd (L:=L) (i6 c2)
  refine cS (da L hL hT (adv s) 46 ha1) (by decide) ?_ ?_<;>simp only[tt,seval,PB]
  cases cd:be L (adv s) 46 with
  |true=>
   rw[if_pos cd] at h
   injection h with h;injection h with h1 h2;subst h1 h2
   simp only[tt,seval,di,dj,cT,dr]
   refine cS (db L hL hT (adv (adv s)) 2 (bd (az cd))) (by decide) ?_ ?_<;>simp only[tt,seval,PB]
   refine⟨.ag (ah (cg (cH L s) (mText L 2 (adv (adv s))).1).row [[],[]]),[PB L ((mText L 2 (adv (adv s))).2)],⟨⟨[],[],rfl⟩,rfl⟩,aj ?_⟩
   simp only[tt,seval,rW,ah,Val.row,lc]
   first|done|((try refine⟨by omega,?_⟩);exact aA fun x=>by (try simp only[fb]);omega)
  |false=>
   rw[if_neg (by rw[cd];simp)] at h
   injection h with h;injection h with h1 h2;subst h1 h2
   simp only[tt,seval,di,dj,cT,dr,Bool.false_eq_true]
   refine⟨.ag (ah (cg z0 (cH L s)).row [[],[]]),[PB L (adv s)],⟨⟨[],[],rfl⟩,rfl⟩,aj ?_⟩
   simp only[tt,seval,rW,ah,Val.row,lc]
   first|done|((try refine⟨by omega,?_⟩);exact aA fun x=>by (try simp only[fb]);omega)
 |false=>
 rw[if_neg (by rw[c2];simp)] at h
 simp only[tt,seval,Bool.false_eq_true]
 refine cS (da L hL hT s 40 ha) (by decide) ?_ ?_<;>simp only[tt,seval,PB]
 cases cl:be L s 40 with
 |true=>
  rw[if_pos cl] at h
  have ha1:=bd (L:=L) (az cl)
  split at h
  ·cases h
  rename_i x t hx
  injection h with h;injection h with h1 h2;subst h1 h2
  have o2:=ok1 _ _ _ hx
  obtain⟨k1,p1,n1,v1,q1,m1,ks1,ss1⟩:=x
  have c:=hf _ _ _ hx ha1
  rw[Expr.row_mk] at c
  simp only[tt,seval,di,dj,cT,dr]
  refine CallQ.intro (c) ?_ ?_ ?_
  ·decide
  ·simp only[tt,seval,PB,ah,Val.row,lc]
  rintro r os ⟨⟨Fk,Fs,rfl⟩,rfl⟩ hos
  simp only[tt,seval,PB,ah,Val.row,lc]
  refine cS (dY L hL hT t 41 (o2.2.1 ha1)) (by decide) ?_ ?_<;>simp only[tt,seval,PB]
  refine⟨.ag (ah ((Expr.mk k1 p1 n1 v1 q1 m1 ks1 ss1)).row [Fk,Fs]),[PB L (must (be L t 41) t)],⟨⟨Fk,Fs,by first|rfl|simp only[rW,ah,Val.row,lc]⟩,rfl⟩,aj ?_⟩
  simp only[tt,seval,rW,ah,Val.row,lc]
  first|done|((try refine⟨by omega,?_⟩);exact aA fun x=>by (try simp only[fb]);omega)
 |false=>
 rw[if_neg (by rw[cl];simp)] at h
 simp only[tt,seval,di,dj,cT,dr,Bool.false_eq_true]
 refine cS (bv L hL hT s 19 ⟨#[69,88,73,83,84,83]⟩ (by kernel_rfl) ha) (by decide) ?_ ?_<;>simp only[tt,seval,PB]
 cases c19:al L s 19 with
 |true=>
  rw[if_pos c19] at h
  simp only[tt,seval,di,dj,cT,dr]
  have ha1:=bd (L:=L) (ao c19)
  have o1:Ok L (adv s) (must (be L (adv s) 40) (adv s)):=Ok.must fun h=>az h
  refine cS (dY L hL hT (adv s) 40 ha1) (by decide) ?_ ?_<;>simp only[tt,seval,PB]
  split at h
  ·cases h
  rename_i x t hx
  injection h with h;injection h with h1 h2;subst h1 h2
  have o2:=okq _ _ _ hx
  obtain⟨d,its,frs,whs,ods,lim⟩:=x
  have c:=hq _ _ _ hx (o1.2.1 ha1)
  rw[Query.row_mk] at c
  refine CallQ.intro (c) ?_ ?_ ?_
  ·decide
  ·simp only[tt,seval,PB,ah,lc]
  rintro r os ⟨⟨Fi,Ff,Fw,Fo,rfl⟩,rfl⟩ hos
  simp only[tt,seval,PB,ah,lc]
  refine cS (dY L hL hT t 41 (o2.2.1 (o1.2.1 ha1))) (by decide) ?_ ?_<;>simp only[tt,seval,PB]
  refine fun G0=>?_
  refine⟨.ag (ah (aZ 9 false [] [(Query.mk d its frs whs ods lim)]).row [[],G0::(Fi++(Ff++(Fw++Fo)))]),[PB L (must (be L t 41) t)],⟨⟨_,_,rfl⟩,rfl⟩,aj ?_⟩
  simp only[tt,seval,rW,ah,Val.row,lc]
  first|done|((try refine⟨by omega,?_⟩);exact aA fun x=>by (try simp only[fb]);omega)
 |false=>
  rw[if_neg (by rw[c19];simp)] at h
  injection h with h;injection h with h1 h2;subst h1 h2
  simp only[tt,seval,di,dj,cT,dr,Bool.false_eq_true,fl]
  refine⟨.ag (ah (aK).row [[],[]]),[PB L (fl s)],⟨⟨[],[],rfl⟩,rfl⟩,aj ?_⟩
  simp only[tt,seval,fl,rW,ah,Val.row,lc]
  first|done|((try refine⟨by omega,?_⟩);exact aA fun x=>by (try simp only[fb]);omega)
end Go.Proofs.YteffjmaadkkmeaaGreatDoor
