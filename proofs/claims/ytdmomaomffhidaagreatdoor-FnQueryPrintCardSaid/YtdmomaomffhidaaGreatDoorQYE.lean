/-
  The lexers.
  Conditions: none.
-/
import Derived.Test.YtdmomaomffhidaaGreatDoorQYB1
import Derived.Shelf.Strings.Search3
import Derived.Shelf.Strings.Prefix
import Derived.Shelf.Small.Strs
import Derived.Test.YtdmomaomffhidaaGreatDoorProg
set_option linter.unusedVariables false
set_option linter.unusedSimpArgs false
set_option linter.unusedSectionVars false
set_option linter.unnecessarySimpa false
set_option maxRecDepth 8000
namespace Go.Proofs.YtdmomaomffhidaaGreatDoor
open Go Go.Dv
open Go.Vc (D dm dq cV bq)
theorem yH {s:ByteArray} {l:List UInt8} (hl:l=s.data.toList) (i j:Nat):s.extract i j=d6 l i j:=by
 subst hl
 apply ByteArray.ext
 rw[ByteArray.data_extract]
 unfold d6
 apply Array.ext'
 simp [List.extract_eq_take_drop]
theorem Bj {l:List UInt8} {i:Nat} (hi:i<l.length) (h:(cJ l[i]||d5 l[i])=true):bM l (i+1)=bM l i:=by
 rw[kD i,aC hi]
 simp only[h,if_true]
theorem Dq {l:List UInt8} {i:Nat} (hi:i<l.length) (h:(cJ l[i]||d5 l[i])=false):bM l i=i:=by
 rw[kD i,aC hi]
 simp [h]
theorem Bl {l:List UInt8} {i:Nat} (hi:l.length<=i):bM l i=i:=by
 rw[kD i,List.getElem?_eq_none_iff.2 hi]
theorem x4 (l:List UInt8) (i j:Nat):(d6 l i j).size=min (j-i) (l.length-i):=by
 unfold d6
 show ((l.drop i).take (j-i)).toArray.size=_
 simp
theorem iB {l:List UInt8} {a:Nat} {b:UInt8} {t:Tok} {e:Nat} (hr:dE l a b=some (t,e)) (ho:aR t=true):cu l a b=some (t,e):=by
 unfold cu
 rw[hr]
 simp only[ho,if_true]
theorem jG {l:List UInt8} {a:Nat} {b:UInt8} {t:Tok} {e:Nat} (hr:dE l a b=some (t,e)) (ho:aR t=false):cu l a b=none:=by
 unfold cu
 rw[hr]
 simp only[ho,Bool.false_eq_true,if_false]
theorem Dr (l:List UInt8) (a:Nat):dE l a 34=(eC l 34 (l.length+1) (a+1) []).map fun x=>(⟨2,⟨x.1.toArray⟩,a⟩,x.2):=by
 unfold dE
 simp only
 rw[if_neg ah,if_neg ah,if_pos trivial]
theorem Ds (l:List UInt8) (a:Nat):dE l a 39=(eC l 39 (l.length+1) (a+1) []).map fun x=>(⟨4,⟨x.1.toArray⟩,a⟩,x.2):=by
 unfold dE
 simp only
 rw[if_neg ah,if_neg ah,if_neg ah,if_pos trivial]
def Dt:List Tok ⊕ Nat->List Tok×Int
 |.inl m=>(m,-1)
 |.inr p=>([],p)
theorem yI {s:ByteArray} {L:List Tok} (h:lg s = .inl L):s.size<=1048576:=by
 unfold lg at h
 split at h
 ·cases h
 ·omega
def x5:Option (List UInt8×Nat)->S
 |some (x,e)=>.tu [([.v (.string ⟨x.toArray⟩)],true),([.v (.int .i64 (e:Nat))],true),([.v (.bool true)],true)]
 |none=>.tu [([.v (.string ⟨#[]⟩)],true),([.v (.int .i64 0)],true),([.v (.bool false)],true)]
theorem oK (s:ByteArray) (a:Nat) (q:UInt8) (hs:s.size<=1048576) (hq:s.data.toList[a]?=some q):Cl Tryz.prog 237 [vs s,vi a] [] fun r _=>r=x5 (eC s.data.toList q (s.data.toList.length+1) (a+1) []):=by
 obtain⟨l,hl⟩:∃l,l=s.data.toList:=⟨_,rfl⟩
 have hll:l.length=s.size:=by rw[hl];exact aK s
 rw[<-hl] at hq ⊢
 obtain⟨ha,hqa⟩:=List.getElem?_eq_some_iff.1 hq
 refine ai ac false Tryz.func237 rfl ae ?_
 simp only[Tryz.f237,tt,seval]
 rw[gL hl ha,hqa]
 simp only[tt,seval]
 rw[aE (n:=(a:Int)+1) aa aa]
 refine dLoop.gh [.ren 13 51] ⟨ah,ah,?_⟩
 refine dLoop0.intro (fun f' L p=>∃(i n:Nat) (bs:List UInt8),f' 9=vi i/\f' 8 = .c (.s 51 bs.length)/\i<=s.size/\bs.length<=i/\eC l q n i bs=eC l q (l.length+1) (a+1) []/\l.length+1<=n+i/\L=[(51,.arr 5 bs.length (aY bs) none)]/\p=none) (fun f' _ _=>(s.size-fH (f' 9)).toNat) [(51,.arr 5 0 (aY []) none)] none ⟨ak rfl (ap _),au _,?_⟩ ?_
 ·simp only[tt,seval]
  exact⟨a+1,l.length+1,[],rfl,rfl,aa,by simp,rfl,aa,rfl⟩
 ·rintro g L p ⟨i,n,bs,h9,h8,hi,hbl,he,hn,rfl,rfl⟩
  simp only[tt,seval] at h9 h8
  simp only[tt,seval,h9,Int.ofNat_lt]
  cases n with
  |zero=>exact absurd hn aa
  |succ n=>
  rw[eC] at he
  refine fun _=>ab (fun hlt=>?_) (fun hge=>?_)
  ·have hil:i<l.length:=by omega
   have hx:l[i]?=some l[i]:=aC hil
   have ex:bs.length<=9223372036854775807:=by omega
   have ew:IntKind.i64.wrap ((i:Int)+1)=((i+1:Nat):Int):=by rw[aE aa aa];omega
   rw[hx] at he
   simp only at he
   rw[gL hl hil]
   simp only[tt,seval,h9,h8]
   by_cases hc:l[i]=q
   ·have eq1:((l[i].toNat:Int)=(q.toNat:Int))=True:=eq_true (by rw[hc])
    rw[if_pos hc] at he
    simp only[tt,seval,eq1]
    refine fun _=>?_
    rw[ew]
    by_cases hi1:i+1<l.length
    ·have g1:decide (((i+1:Nat):Int)=(s.size:Int))=false:=aB aa
     rw[aC hi1] at he
     simp only[tt,seval,h9,g1,ew]
     rw[gL hl hi1]
     simp only[tt,seval,h9,h8]
     refine ab (fun hne=>?_) (fun heq=>?_)
     ·have hd:¬l[i+1]=q:=fun e=>by rw[e] at hne;simp at hne
      rw[if_neg (by simpa using hd)] at he
      refine⟨ae,by simp only[maxLen];omega,bs,rfl,rfl,?_⟩
      simp only[tt,seval,h9,ew]
      rw[<-he]
      exact⟨_,_,rfl,ao rfl⟩
     ·have hd:l[i+1]=q:=UInt8.toNat_inj.1 (by simp at heq;omega)
      rw[if_pos (by rw[hd])] at he
      rw[ew,gL hl hi1]
      simp only[tt,seval]
      refine qA ?_
      rw[fy,hd,aE (n:=((i+1:Nat):Int)+1) aa aa]
      refine⟨[(51,.arr 5 (bs++[q]).length (aY (bs++[q])) none)],none,ak (by simp [Go.Dv.look]) (ap _),au _,⟨i+2,n,bs++[q],kX aa,by simp,aa,by simp;omega,he,aa,rfl,rfl⟩,az⟩
    ·have g1:decide (((i+1:Nat):Int)=(s.size:Int))=true:=ax aa
     rw[List.getElem?_eq_none_iff.2 aa,if_neg (by simp)] at he
     simp only[tt,seval,h9,h8,g1,ew]
     refine⟨ae,by simp only[maxLen];omega,bs,rfl,rfl,?_⟩
     simp only[tt,seval,h9,ew]
     rw[<-he]
     exact⟨_,_,rfl,ao rfl⟩
   ·have eq1:((l[i].toNat:Int)=(q.toNat:Int))=False:=eq_false fun h=>hc (UInt8.toNat_inj.1 aa)
    rw[if_neg hc] at he
    simp only[tt,seval,eq1]
    rw[gL hl hil]
    simp only[tt,seval,h9]
    refine qA ?_
    rw[fy,ew]
    refine⟨[(51,.arr 5 (bs++[l[i]]).length (aY (bs++[l[i]])) none)],none,ak (by simp [Go.Dv.look]) (ap _),au _,⟨i+1,n,bs++[l[i]],rfl,by simp,aa,by simp;omega,he,aa,rfl,rfl⟩,az⟩
  ·have:i=s.size:=by omega
   subst this
   rw[List.getElem?_eq_none_iff.2 aa] at he
   simp only at he
   rw[<-he]
   exact⟨_,_,rfl,ao rfl⟩
end Go.Proofs.YtdmomaomffhidaaGreatDoor
namespace Go.Proofs.YtdmomaomffhidaaGreatDoor
open Go Go.Shelf Go.Proofs
def Tryz.lays143_ren:Go.Shelf.Ren:=⟨fun|143=>232|219=>267|217=>265|225=>290|224=>291|267=>292|266=>289|314=>305|n=>n,fun|9=>9|3=>3|4=>4|5=>5|46=>202|146=>255|51=>247|n=>n,fun|1=>0|n=>n⟩
theorem Tryz.lays143:Go.Proofs.Lays.n143 Tryz.prog Tryz.lays143_ren:={
 mixed:=by kernel_rfl
 f143:=Tryz.func232.trans (congrArg some ae)
 f217:=Tryz.func265.trans (congrArg some ae)
 f219:=Tryz.func267.trans (congrArg some ae)
 f224:=Tryz.func291.trans (congrArg some ae)
 f225:=Tryz.func290.trans (congrArg some ae)
 f266:=Tryz.func289.trans (congrArg some ae)
 f267:=Tryz.func292.trans (congrArg some ae)
 f314:=Tryz.func305.trans (congrArg some ae)
 t3:=Tryz.underlying3
 a3:=Tryz.isAgg3
 z3:=Tryz.sizeOf3
 v3:=Tryz.zeroValue3
 t4:=Tryz.underlying4
 a4:=Tryz.isAgg4
 z4:=Tryz.sizeOf4
 v4:=Tryz.zeroValue4
 t5:=Tryz.underlying5
 a5:=Tryz.isAgg5
 z5:=Tryz.sizeOf5
 v5:=Tryz.zeroValue5
 t9:=Tryz.underlying9
 a9:=Tryz.isAgg9
 z9:=Tryz.sizeOf9
 v9:=Tryz.zeroValue9
 t46:=Tryz.underlying202
 a46:=Tryz.isAgg202
 z46:=Tryz.sizeOf202
 v46:=Tryz.zeroValue202
 t51:=Tryz.underlying247
 a51:=Tryz.isAgg247
 z51:=Tryz.sizeOf247
 v51:=Tryz.zeroValue247
 t146:=Tryz.underlying255
 a146:=Tryz.isAgg255
 z146:=Tryz.sizeOf255
 v146:=Tryz.zeroValue255
 g1:=by kernel_rfl }
def Tryz.lays137_ren:Go.Shelf.Ren:=⟨fun|137=>230|217=>265|266=>289|n=>n,fun|9=>9|5=>5|3=>3|n=>n,fun|n=>n⟩
theorem Tryz.lays137:Go.Proofs.Lays.n137 Tryz.prog Tryz.lays137_ren:={
 mixed:=by kernel_rfl
 f137:=Tryz.func230.trans (congrArg some ae)
 f217:=Tryz.func265.trans (congrArg some ae)
 f266:=Tryz.func289.trans (congrArg some ae)
 t3:=Tryz.underlying3
 a3:=Tryz.isAgg3
 z3:=Tryz.sizeOf3
 v3:=Tryz.zeroValue3
 t5:=Tryz.underlying5
 a5:=Tryz.isAgg5
 z5:=Tryz.sizeOf5
 v5:=Tryz.zeroValue5
 t9:=Tryz.underlying9
 a9:=Tryz.isAgg9
 z9:=Tryz.sizeOf9
 v9:=Tryz.zeroValue9 }
def Tryz.lays99_ren:Go.Shelf.Ren:=⟨fun|99=>231|206=>266|n=>n,fun|9=>9|4=>4|3=>3|n=>n,fun|n=>n⟩
theorem Tryz.lays99:Go.Proofs.Lays.n99 Tryz.prog Tryz.lays99_ren:={
 mixed:=by kernel_rfl
 f99:=Tryz.func231.trans (congrArg some ae)
 f206:=Tryz.func266.trans (congrArg some ae)
 t3:=Tryz.underlying3
 a3:=Tryz.isAgg3
 z3:=Tryz.sizeOf3
 v3:=Tryz.zeroValue3
 t4:=Tryz.underlying4
 a4:=Tryz.isAgg4
 z4:=Tryz.sizeOf4
 v4:=Tryz.zeroValue4
 t9:=Tryz.underlying9
 a9:=Tryz.isAgg9
 z9:=Tryz.sizeOf9
 v9:=Tryz.zeroValue9 }
end Go.Proofs.YtdmomaomffhidaaGreatDoor
set_option maxRecDepth 8000
namespace Go.Proofs.YtdmomaomffhidaaGreatDoor
open Go Go.Dv
open Go.Vc (D dm dq cV bq)
open Go.RowKit (Below)
theorem nK (w:World):Below w.heap.size w w:=⟨rfl,rfl,rfl,Nat.le_refl _,fun _ _=>rfl⟩
theorem mc (s p:ByteArray):Cl Tryz.prog 231 [vs s,vs p] [] fun r _=>r=vb (Lib.hasPrefix s.data.toList p.data.toList):=
 Cl.ofVals ae [.string s,.string p] fun w hg=>by
  refine (Any.strings_HasPrefix Tryz.lays99 s p w).mono ?_
  rintro e w' ⟨rfl,rfl⟩
  exact⟨_,rfl,trivial,rfl,nK _⟩
theorem q8 (s:ByteArray) (c:UInt8):Cl Tryz.prog 230 [vs s,vu (c.toNat:Int)] [] fun r _=>r=vi (Lib.indexByte s.data.toList c):=
 Cl.ofVals ae [.string s,.int .u8 (c.toNat:Int)] fun w hg=>by
  refine (Any.strings_IndexByte Tryz.lays137 s (c.toNat:Int) w).mono ?_
  rintro e w' ⟨rfl,rfl⟩
  exact⟨_,rfl,trivial,by simp,nK _⟩
theorem Du (s p:ByteArray) (hs:s.size<=1048576):Cl Tryz.prog 232 [vs s,vs p] [] fun r _=>r=vi (Lib.index s.data.toList p.data.toList):=
 Cl.ofVals ae [.string s,.string p] fun w hg=>by
  obtain⟨m,hm⟩:=ut hg
  refine (Any.strings_Index Tryz.lays143 s p m w aa hm).mono ?_
  rintro e w' ⟨rfl,rfl⟩
  exact⟨_,rfl,trivial,rfl,nK _⟩
theorem vc {s:ByteArray} {l:List UInt8} (hl:l=s.data.toList) (i:Nat):s.extract i s.size=⟨(l.drop i).toArray⟩:=by
 rw[yH hl]
 unfold d6
 rw[List.take_of_length_le]
 rw[List.length_drop,hl,aK]
 exact Nat.le_refl _
theorem I9 (l:List UInt8) (i:Nat) (a b:UInt8):Lib.hasPrefix (l.drop i) [a,b]=decide (l[i]?=some a/\l[i+1]?=some b):=by
 have h0:l[i]?=(l.drop i)[0]?:=by simp [List.getElem?_drop]
 have h1:l[i+1]?=(l.drop i)[1]?:=by simp [List.getElem?_drop]
 rw[h0,h1]
 unfold Lib.hasPrefix
 generalize l.drop i=m
 match m with
 | []=>simp
 | [x]=>
  show (a==x&&false)=_
  simp
 |x::y::r=>
  show (a==x&&(b==y&&true))=_
  by_cases h1:x=a
  ·by_cases h2:y=b
   ·simp [h1,h2]
   ·have h2':¬b=y:=fun e=>h2 e.symm
    simp [h1,h2,h2']
  ·have h1':¬a=x:=fun e=>h1 e.symm
   simp [h1,h1']
theorem A7 (l:List UInt8):∀n j,l.length-j<=n->dJ l (dJ l j)=dJ l j
 |0,j,h=>by
  have:=iU (B:=l) j
  rw[List.getElem?_eq_none_iff.2 aa] at this
  simp only at this
  rw[this,this]
 |n+1,j,h=>by
  have:=iU (B:=l) j
  cases hx:l[j]? with
  |none=>
   rw[hx] at this
   simp only at this
   rw[this,this]
  |some b=>
   rw[hx] at this
   simp only at this
   split at this
   ·rw[this,this]
   ·rw[this];exact A7 l n (j+1) aa
theorem FH (l:List UInt8) (c:UInt8):Lib.indexByte l c=if (l.takeWhile fun b=>!(b==c)).length<l.length then ((l.takeWhile fun b=>!(b==c)).length:Int) else -1:=by
 induction l with
 |nil=>rfl
 |cons b r ih=>
  unfold Lib.indexByte
  rw[List.takeWhile_cons]
  by_cases h:(b==c)=true
  ·simp [h]
  ·rw[if_neg h,ih]
   have hb:(!(b==c))=true:=by simp [h]
   simp only[hb,if_true,List.length_cons,Nat.add_lt_add_iff_right]
   split
   ·rw[if_neg (by simp only[beq_iff_eq];omega)];omega
   ·rw[if_pos (by rfl)]
theorem Ia (b:UInt8):0<=Lib.indexByte [32,9,10,13] b↔qn b=true:=by
 unfold qn
 simp only[Lib.indexByte,Bool.or_eq_true,beq_iff_eq]
 by_cases h1:b=32
 ·subst h1;decide
 by_cases h2:b=9
 ·subst h2;decide
 by_cases h3:b=10
 ·subst h3;decide
 by_cases h4:b=13
 ·subst h4;decide
 simp only[h1,h2,h3,h4,eq_comm,or_self,iff_false,if_false]
 simp []
theorem A8 (l:List UInt8):∀n i,i<=l.length->l.length+1<=n+i->ra l n i=(if Lib.index (l.drop i) [42,47] = -1 then none else some (i+(Lib.index (l.drop i) [42,47]).toNat))
 |0,i,hi,hn=>absurd hn aa
 |n+1,i,hi,hn=>by
  rw[ra]
  have hp:=I9 l i 42 47
  unfold Lib.hasPrefix at hp
  by_cases hlt:i<l.length
  ·rw[List.drop_eq_getElem_cons hlt] at hp ⊢
   unfold Lib.index
   rw[hp]
   by_cases hq:l[i]?=some 42/\l[i+1]?=some 47
   ·rw[if_pos hq,ax hq];simp
   ·rw[if_neg hq,if_pos hlt,aB hq,A8 l n (i+1) aa aa]
    have hg:=Lib.index_ge (l.drop (i+1)) [42,47]
    by_cases hm:Lib.index (l.drop (i+1)) [42,47] = -1
    ·simp [hm]
    ·simp only[hm,Bool.false_eq_true,if_false,beq_iff_eq]
     rw[if_neg aa]
     congr 1
     omega
  ·have hq:¬(l[i]?=some 42/\l[i+1]?=some 47):=fun h=>hlt (List.getElem?_eq_some_iff.1 h.1).1
   rw[if_neg hq,if_neg hlt,List.drop_eq_nil_of_le aa]
   rfl
def Jm:Option (Nat×Bool)->S
 |some (p,b)=>.tu [([.v (.int .i64 (p:Nat))],true),([.v (.bool b)],true)]
 |none=>.tu []
set_option maxHeartbeats 4000000 in
theorem Ib (s:ByteArray) (a:Nat) (hs:s.size<=1048576) (ha:a<=s.size):Cl Tryz.prog 187 [vs s,vi a] [] fun r _=>r=Jm (f6 s.data.toList (s.data.toList.length+1) a):=by
 obtain⟨l,hl⟩:∃l,l=s.data.toList:=⟨_,rfl⟩
 have hll:l.length=s.size:=by rw[hl];exact aK s
 rw[<-hl]
 obtain⟨rr,ok,hrr,hr1,hr2⟩:=gp (B:=l) (l.length+1) a aa aa
 rw[hrr]
 refine ai ac false Tryz.func187 rfl ae ?_
 simp only[Tryz.f187,tt,seval]
 refine dLoop.intro (fun f' L p=>∃(j n:Nat),f' 1=vi j/\j<=s.size/\f6 l n j=some (rr,ok)/\l.length+1<=n+j/\L=[]/\p=none) (fun f' _ _=>(s.size-fH (f' 1)).toNat) [] none ⟨ap _,au _,?_⟩ ?_
 ·simp only[tt,seval]
  exact⟨a,l.length+1,rfl,ha,hrr,aa⟩
 ·rintro g L p ⟨j,n,h1,hj,he,hn,rfl,rfl⟩
  simp only[tt,seval] at h1
  cases n with
  |zero=>exact absurd hn aa
  |succ n=>
  rw[f6] at he
  simp only[tt,seval,h1,Int.ofNat_lt]
  refine fun _=>ab (fun hlt=>?_) (fun hge=>?_)
  ·have hil:j<l.length:=by omega
   have hrs:(⟨(l.drop j).toArray⟩:ByteArray).size<=1048576:=by show (l.drop j).toArray.size<=_;simp;omega
   rw[aC hil] at he
   simp only at he
   rw[qK ae (show s.size<=9223372036854775807 by omega) aa aa,Int.toNat_natCast,vc hl]
   simp only[tt,seval,h1]
   rw[gL hl hil]
   simp only[tt,seval]
   have cw:=q8 ⟨#[32,9,10,13]⟩ l[j]
   have hwi:=Ia l[j]
   refine cZ (cw) ?_ ?_<;>simp only[tt,seval,h1]
   by_cases hw:qn l[j]=true
   ·rw[if_pos hw] at he
    have e1:(0<=Lib.indexByte [32,9,10,13] l[j])=True:=eq_true (hwi.2 hw)
    simp only[tt,seval,e1]
    rw[aE (n:=(j:Int)+1) aa aa]
    exact⟨[],none,ap _,au _,⟨j+1,n,rfl,aa,he,aa,rfl,rfl⟩,az⟩
   ·rw[if_neg hw] at he
    have e1:(0<=Lib.indexByte [32,9,10,13] l[j])=False:=eq_false fun h=>hw (hwi.1 h)
    simp only[tt,seval,e1]
    have c1:=mc ⟨(l.drop j).toArray⟩ ⟨#[45,45]⟩
    have e2:Lib.hasPrefix (⟨(l.drop j).toArray⟩:ByteArray).data.toList (⟨#[45,45]⟩:ByteArray).data.toList=decide (l[j]=45/\l[j+1]?=some 45):=by
     show Lib.hasPrefix (l.drop j) [45,45]=_
     rw[I9,aC hil];simp
    rw[e2] at c1
    refine cZ (c1) ?_ ?_<;>simp only[tt,seval]
    by_cases hd:l[j]=45/\l[j+1]?=some 45
    ·have d1:decide (l[j]=45/\l[j+1]?=some 45)=true:=ax hd
     have d1':(l[j]=45/\l[j+1]?=some 45)=True:=eq_true hd
     rw[if_pos hd] at he
     have hne:¬l[j]=10:=by rw[hd.1];decide
     have eol:=iU (B:=l) j
     rw[aC hil] at eol
     simp only[hne,if_false] at eol
     have gol:=rb (B:=l) (j+1)
     have gl2:=vR (B:=l) (i:=j) aa
     simp only[tt,seval,d1']
     have c2:=q8 ⟨(l.drop j).toArray⟩ 10
     have e3:Lib.indexByte (⟨(l.drop j).toArray⟩:ByteArray).data.toList 10=if dJ l j<l.length then ((dJ l j:Nat):Int)-j else -1:=by
      show Lib.indexByte (l.drop j) 10=_
      rw[FH,List.length_drop]
      have:dJ l j=j+((l.drop j).takeWhile fun b=>!(b==10)).length:=rfl
      split<;>split<;>omega
     rw[e3] at c2
     refine cZ (c2) ?_ ?_<;>simp only[tt,seval,h1]
     cases n with
     |zero=>exact absurd hn aa
     |succ n=>
     rw[f6] at he
     by_cases hE:dJ l j<l.length
     ·have hv:l[dJ l j]?=some 10:=by
       have:=iU (B:=l) (dJ l j)
       have h2:=A7 l _ j (Nat.le_refl _)
       rw[aC hE] at this ⊢
       simp only at this
       split at this
       ·rename_i h;rw[h]
       ·have:=rb (B:=l) (dJ l j+1);omega
      rw[hv] at he
      simp only[show qn 10=true from rfl,if_true] at he
      have f1:((if dJ l j<l.length then ((dJ l j:Nat):Int)-j else -1)<0)=False:=eq_false (by rw[if_pos hE];omega)
      have f1':(((dJ l j:Nat):Int)-j<0)=False:=eq_false aa
      simp only[tt,seval,f1',hE]
      rw[aE (n:=((dJ l j:Nat):Int)-j+1) aa aa,aE (n:=(j:Int)+(((dJ l j:Nat):Int)-j+1)) aa aa]
      exact⟨[],none,ap _,au _,⟨dJ l j+1,n,kX aa,aa,he,aa,rfl,rfl⟩,az⟩
     ·rw[List.getElem?_eq_none_iff.2 aa] at he
      simp only at he
      injection he with he;injection he with he1 he2;subst he1 he2
      have f1:((if dJ l j<l.length then ((dJ l j:Nat):Int)-j else -1)<0)=True:=eq_true (by rw[if_neg hE];omega)
      simp only[tt,seval,f1]
      refine fun _=>⟨.tu [([.v (.int .i64 (s.size:Nat))],true),([.v (.bool true)],true)],[],?_,ao rfl⟩
      rw[show dJ l j=s.size by omega];rfl
    ·have d1:decide (l[j]=45/\l[j+1]?=some 45)=false:=aB hd
     have d1':(l[j]=45/\l[j+1]?=some 45)=False:=eq_false hd
     rw[if_neg hd] at he
     simp only[tt,seval,d1']
     have c2:=mc ⟨(l.drop j).toArray⟩ ⟨#[47,42]⟩
     have e3:Lib.hasPrefix (⟨(l.drop j).toArray⟩:ByteArray).data.toList (⟨#[47,42]⟩:ByteArray).data.toList=decide (l[j]=47/\l[j+1]?=some 42):=by
      show Lib.hasPrefix (l.drop j) [47,42]=_
      rw[I9,aC hil];simp
     rw[e3] at c2
     refine cZ (c2) ?_ ?_<;>simp only[tt,seval,h1]
     by_cases hc:l[j]=47/\l[j+1]?=some 42
     ·have d2:decide (l[j]=47/\l[j+1]?=some 42)=true:=ax hc
      have d2':(l[j]=47/\l[j+1]?=some 42)=True:=eq_true hc
      rw[if_pos hc] at he
      have hj2:j+1<l.length:=(List.getElem?_eq_some_iff.1 hc.2).1
      simp only[tt,seval,d2']
      have hrz:(⟨(l.drop j).toArray⟩:ByteArray).size=l.length-j:=by show (l.drop j).toArray.size=_;simp
      rw[qK ae (show ByteArray.size _<=9223372036854775807 by omega) aa aa]
      have e4:(⟨(l.drop j).toArray⟩:ByteArray).extract (2:Int).toNat (⟨(l.drop j).toArray⟩:ByteArray).size=⟨(l.drop (j+2)).toArray⟩:=by
       rw[vc (l:=l.drop j) (by simp)]
       simp [List.drop_drop]
      rw[e4]
      simp only[tt,seval]
      have c3:=Du ⟨(l.drop (j+2)).toArray⟩ ⟨#[42,47]⟩ (by show (l.drop (j+2)).toArray.size<=_;simp;omega)
      have e5:Lib.index (⟨(l.drop (j+2)).toArray⟩:ByteArray).data.toList (⟨#[42,47]⟩:ByteArray).data.toList=Lib.index (l.drop (j+2)) [42,47]:=rfl
      rw[e5] at c3
      have hx:=A8 l (l.length+1) (j+2) aa aa
      have hg:=Lib.index_ge (l.drop (j+2)) [42,47]
      generalize Lib.index (l.drop (j+2)) [42,47]=ix at *
      refine cZ (c3) ?_ ?_<;>simp only[tt,seval,h1]
      rw[hx] at he
      by_cases hm:ix = -1
      ·rw[if_pos hm] at he
       simp only at he
       injection he with he;injection he with he1 he2;subst he1 he2
       have f1:(ix<0)=True:=eq_true aa
       simp only[tt,seval,f1]
       exact⟨_,_,rfl,ao rfl⟩
      ·rw[if_neg hm] at he hx
       have hsp:=nl hx
       simp only at he
       have f1:(ix<0)=False:=eq_false aa
       simp only[tt,seval,f1]
       rw[aE (n:=ix+4) aa aa,aE (n:=(j:Int)+(ix+4)) aa aa]
       exact⟨[],none,ap _,au _,⟨j+2+ix.toNat+2,n,kX aa,aa,he,aa,rfl,rfl⟩,az⟩
     ·have d2:decide (l[j]=47/\l[j+1]?=some 42)=false:=aB hc
      have d2':(l[j]=47/\l[j+1]?=some 42)=False:=eq_false hc
      rw[if_neg hc] at he
      injection he with he;injection he with he1 he2;subst he1 he2
      simp only[tt,seval,d2']
      exact⟨_,_,rfl,ao rfl⟩
  ·have:j=s.size:=by omega
   subst this
   rw[List.getElem?_eq_none_iff.2 aa] at he
   simp only at he
   injection he with he;injection he with he1 he2;subst he1 he2
   exact⟨_,_,rfl,ao rfl⟩
end Go.Proofs.YtdmomaomffhidaaGreatDoor
set_option maxRecDepth 8000
namespace Go.Proofs.YtdmomaomffhidaaGreatDoor
open Go Go.Dv
open Go.Vc (D dm dq cV bq)
theorem Kc {l:List UInt8} {a:Nat} (k:Nat) (s:List UInt8) (h:s <+: l.drop a) (hs:s.length=k):(⟨s.toArray⟩:ByteArray)=d6 l a (a+k):=by
 unfold d6
 rw[Nat.add_sub_cancel_left,<-hs,<-List.prefix_iff_eq_take.1 h]
structure BestI (S:List ByteArray) (m:List UInt8) (t:ByteArray):Prop where
 got:t=⟨#[]⟩∨(t∈S/\t.data.toList <+: m)
 most:∀s∈S,s.data.toList <+: m->s.size<=t.size
theorem BestI.nil (m:List UInt8):BestI [] m ⟨#[]⟩:=⟨.inl rfl,fun _ h=>by cases h⟩
theorem BestI.yes {S:List ByteArray} {m:List UInt8} {t s:ByteArray} (h:BestI S m t) (hp:s.data.toList <+: m) (hl:t.size<s.size):BestI (S++[s]) m s:=
 ⟨.inr ⟨by simp,hp⟩,fun x hx hm=>by
   rcases List.mem_append.1 hx with hx|hx
   ·have:=h.most x hx hm;omega
   ·rw[List.mem_singleton.1 hx];exact Nat.le_refl _⟩
theorem BestI.no {S:List ByteArray} {m:List UInt8} {t s:ByteArray} (h:BestI S m t) (hp:s.data.toList <+: m->s.size<=t.size):BestI (S++[s]) m t:=
 ⟨h.got.imp id fun ⟨h1,h2⟩=>⟨by simp [h1],h2⟩,fun x hx hm=>by
   rcases List.mem_append.1 hx with hx|hx
   ·exact h.most x hx hm
   ·rw[List.mem_singleton.1 hx] at hm ⊢;exact hp hm⟩
theorem kP:∀s∈signs,1<=s.size/\s.size<=2:=by decide
theorem mG {s:ByteArray}:dD s=true↔s∈signs:=by
 unfold dD
 simp [List.any_eq_true]
theorem A9 (l:List UInt8) (a k:Nat):(d6 l a (a+k)).data.toList <+: l.drop a:=by
 unfold d6
 rw[Nat.add_sub_cancel_left]
 exact List.take_prefix _ _
theorem Bm {l:List UInt8} {a:Nat} {t:ByteArray} (ha:a<l.length) (h:BestI signs (l.drop a) t):(t=d6 l a (eN l a)/\a+t.size=eN l a)∨(dD t=false/\dD (d6 l a (eN l a))=false):=by
 have hlen:∀k,a+k<=l.length->(d6 l a (a+k)).size=k:=fun k hk=>by
  unfold d6
  show ((l.drop a).take (a+k-a)).toArray.size=_
  simp;omega
 have ht2:t.size<=2:=by
  rcases h.got with rfl|⟨h1,_⟩
  ·exact Nat.zero_le _
  ·exact (kP _ h1).2
 have cutt:∀k,t.size=k->1<=k->t=d6 l a (a+k)/\t∈signs:=fun k hk h1=>by
  rcases h.got with rfl|⟨h2,h3⟩
  ·exact absurd hk (by show ¬(0=k);omega)
  ·exact⟨Kc k t.data.toList h3 (by rw[<-hk];simp),h2⟩
 unfold eN
 by_cases c2:a+2<=l.length/\dD (d6 l a (a+2))=true
 ·rw[if_pos c2]
  have:=h.most _ (mG.1 c2.2) (A9 l a 2)
  rw[hlen 2 c2.1] at this
  have hz:t.size=2:=by omega
  exact .inl ⟨(cutt 2 hz aa).1,aa⟩
 ·rw[if_neg c2]
  have h2:t.size≠2:=fun hz=>by
   obtain⟨e,hm⟩:=cutt 2 hz aa
   refine c2 ⟨?_,by rw[<-e];exact mG.2 hm⟩
   have:(d6 l a (a+2)).size<=l.length-a:=by
    unfold d6
    show ((l.drop a).take (a+2-a)).toArray.size<=_
    simp;omega
   rw[<-e] at this
   omega
  by_cases c1:dD (d6 l a (a+1))=true
  ·have:=h.most _ (mG.1 c1) (A9 l a 1)
   rw[hlen 1 aa] at this
   have hz:t.size=1:=by omega
   exact .inl ⟨(cutt 1 hz aa).1,aa⟩
  ·refine .inr ⟨?_,by simpa using c1⟩
   by_cases hz:t.size=1
   ·obtain⟨e,hm⟩:=cutt 1 hz aa
    exact absurd (by rw[<-e];exact mG.2 hm) c1
   ·rcases h.got with rfl|⟨h3,_⟩
    ·rfl
    ·have:=(kP _ h3).1;omega
set_option maxHeartbeats 8000000 in
theorem x6 (s:ByteArray) (a:Nat) (b:UInt8) (hs:s.size<=1048576) (hb:s.data.toList[a]?=some b):Cl Tryz.prog 188 [vs s,vi a] [] fun r _=>∃(t:Tok) (e:Int) (ok:Bool),r = .tu [(aw t.row,false),([.v (.int .i64 e)],true),([.v (.bool ok)],true)]/\ok=(cu s.data.toList a b).isSome/\∀t' e',cu s.data.toList a b=some (t',e')->t=t'/\e=e':=by
 obtain⟨l,hl⟩:∃l,l=s.data.toList:=⟨_,rfl⟩
 have hll:l.length=s.size:=by rw[hl];exact aK s
 rw[<-hl] at hb ⊢
 obtain⟨ha,hba⟩:=List.getElem?_eq_some_iff.1 hb
 refine ai ac false Tryz.func188 rfl ae ?_
 simp only[Tryz.f188,tt,seval]
 rw[gL hl ha,hba]
 simp only[tt,seval]
 refine cZ (vF b.toNat) ?_ ?_<;>simp only[tt,seval]
 cases hP:mL b.toNat||decide ((48:Int)<=(b.toNat:Int)/\(b.toNat:Int)<=57) with
 |true=>
  simp only[tt,seval]
  have hrl:=vS (B:=l) a
  have hrh:=vT (B:=l) (i:=a) aa
  refine dLoop.intro (fun f' L p=>∃j:Nat,f' 8=vi j/\j<=s.size/\bM l j=bM l a/\L=[(7,.str [.v (.int .i64 0),.v (.string ByteArray.empty),.v (.int .i64 a)]),(4,.str [.v (.int .i64 0),.v (.string ByteArray.empty),.v (.int .i64 0)])]/\p=none) (fun f' _ _=>(s.size-fH (f' 8)).toNat) [(7,.str [.v (.int .i64 0),.v (.string ByteArray.empty),.v (.int .i64 a)]),(4,.str [.v (.int .i64 0),.v (.string ByteArray.empty),.v (.int .i64 0)])] none ⟨ak rfl (ak rfl (ap _)),au _,?_⟩ ?_
  ·simp only[tt,seval]
   exact⟨a,rfl,aa,rfl⟩
  ·rintro g L p ⟨j,h8,hj,he,rfl,rfl⟩
   simp only[tt,seval] at h8
   simp only[tt,seval,h8,Int.ofNat_lt]
   refine fun _=>?_
   by_cases hlt:j<s.size
   ·have hil:j<l.length:=by omega
    simp only[tt,seval,h8,hlt]
    rw[gL hl hil]
    simp only[tt,seval]
    refine cZ (vF l[j].toNat) ?_ ?_<;>simp only[tt,seval,h8]
    cases hL:mL l[j].toNat||decide ((48:Int)<=(l[j].toNat:Int)/\(l[j].toNat:Int)<=57) with
    |true=>
     simp only[tt,seval]
     rw[aE (n:=(j:Int)+1) aa aa]
     exact⟨[(7,.str [.v (.int .i64 0),.v (.string ByteArray.empty),.v (.int .i64 a)]),(4,.str [.v (.int .i64 0),.v (.string ByteArray.empty),.v (.int .i64 0)])],none,ak rfl (ak rfl (ap _)),au _,⟨j+1,rfl,aa,by rw[Bj hil hL,he],rfl,rfl⟩,az⟩
    |false=>
     have ej:j=bM l a:=by rw[<-he,Dq hil hL]
     subst ej
     simp only[tt,seval]
     have hsz:(d6 l a (bM l a)).size<=1048576:=by rw[x4];omega
     refine dDrawn.intro [] (dW [0,2,4,6,8,11,12,15]) ae ?_
     simp only[tt,seval]
     all_goals try simp only[tt,seval,h8]
     all_goals rw[yA ae (show s.size<=9223372036854775807 by omega) aa aa aa,Int.toNat_natCast,Int.toNat_natCast,yH hl]
     generalize hx:d6 l a (bM l a)=x at *
     simp only[tt,seval]
     refine cZ (oY b.toNat) ?_ ?_<;>simp only[tt,seval]
     cases hF:decide ((48:Int)<=(b.toNat:Int)/\(b.toNat:Int)<=57) with
     |true=>
      have hF':=of_decide_eq_true hF
      have hL:mL b.toNat=false:=by unfold mL;simp only[Bool.or_eq_false_iff,decide_eq_false_iff_not];omega
      have eF:((48:Int)<=(b.toNat:Int)/\(b.toNat:Int)<=57)=True:=eq_true hF'
      have hraw:dE l a b=some (⟨3,x,a⟩,bM l a):=by
       unfold dE
       simp only[cJ,d5,hL,hF,if_true,Bool.false_eq_true,if_false,hx]
      simp only[tt,seval,eF]
      refine dDrawn.intro [] (dW [0,2,4,7,9,10,12]) ae ?_
      simp only[tt,seval]
      all_goals try simp only[tt,seval,h8]
      all_goals repeat' first|refine fI ?_ ?_|refine cv ?_ ?_
      all_goals
       refine cZ (dw (Tok.mk 3 x a) hsz) ?_ ?_<;>simp only[tt,seval,Tok.row]
      all_goals
       cases ho:aR (Tok.mk 3 x a) with
       |true=>
        have e1:cu l a b=some ((Tok.mk 3 x a),bM l a):=iB hraw ho
        rw[e1]
        refine⟨.tu [(aw (Tok.mk 3 x a).row,false),([.v (.int .i64 ((bM l a:Nat):Int))],true),([.v (.bool true)],true)],[],⟨(Tok.mk 3 x a),_,_,rfl,by rfl,fun t' e' h=>by cases h;exact⟨rfl,rfl⟩⟩,aq ?_⟩
        simp only[tt,seval,Tok.row]
       |false=>
        have e1:cu l a b=none:=jG hraw ho
        rw[e1]
        refine⟨.tu [(aw (Tok.mk 3 x a).row,false),([.v (.int .i64 ((bM l a:Nat):Int))],true),([.v (.bool false)],true)],[],⟨(Tok.mk 3 x a),_,_,rfl,by rfl,by first|exact fun t' e' h=>by cases h|exact fun _ _ h=>(by cases h)⟩,aq ?_⟩
        simp only[tt,seval,Tok.row]
     |false=>
      have hF':=of_decide_eq_false hF
      have hL:mL b.toNat=true:=by rw[hF,Bool.or_false] at hP;exact hP
      have eF:((48:Int)<=(b.toNat:Int)/\(b.toNat:Int)<=57)=False:=eq_false hF'
      have hraw:dE l a b=some (if key x=0 then ⟨2,x,a⟩ else ⟨1,d4 x,a⟩,bM l a):=by
       unfold dE
       simp only[cJ,hL,if_true,hx]
      simp only[tt,seval,eF]
      refine cZ (qU x hsz) ?_ ?_<;>simp only[tt,seval]
      by_cases hk:key x=0
      ·rw[if_pos hk] at hraw
       have ek:(!decide (key x=0))=false:=by rw[ax hk];rfl
       have ek':(¬key x=0)=False:=eq_false (not_not_intro hk)
       have ek2:(key x=0)=True:=eq_true hk
       simp only[tt,seval,ek2]
       refine dDrawn.intro [] (dW [0,2,4,7,9,10,12]) ae ?_
       simp only[tt,seval]
       all_goals try simp only[tt,seval,h8]
       all_goals repeat' first|refine fI ?_ ?_|refine cv ?_ ?_
       all_goals
        refine cZ (dw (Tok.mk 2 x a) hsz) ?_ ?_<;>simp only[tt,seval,Tok.row]
       all_goals
        cases ho:aR (Tok.mk 2 x a) with
        |true=>
         have e1:cu l a b=some ((Tok.mk 2 x a),bM l a):=iB hraw ho
         rw[e1]
         refine⟨.tu [(aw (Tok.mk 2 x a).row,false),([.v (.int .i64 ((bM l a:Nat):Int))],true),([.v (.bool true)],true)],[],⟨(Tok.mk 2 x a),_,_,rfl,by rfl,fun t' e' h=>by cases h;exact⟨rfl,rfl⟩⟩,aq ?_⟩
         simp only[tt,seval,Tok.row]
        |false=>
         have e1:cu l a b=none:=jG hraw ho
         rw[e1]
         refine⟨.tu [(aw (Tok.mk 2 x a).row,false),([.v (.int .i64 ((bM l a:Nat):Int))],true),([.v (.bool false)],true)],[],⟨(Tok.mk 2 x a),_,_,rfl,by rfl,by first|exact fun t' e' h=>by cases h|exact fun _ _ h=>(by cases h)⟩,aq ?_⟩
         simp only[tt,seval,Tok.row]
      ·rw[if_neg hk] at hraw
       have ek2:(key x=0)=False:=eq_false hk
       simp only[tt,seval,ek2]
       refine cZ (qC x hsz) ?_ ?_<;>simp only[tt,seval]
       refine dDrawn.intro [] (dW [0,2,4,7,9,10,12]) ae ?_
       simp only[tt,seval]
       all_goals try simp only[tt,seval,h8]
       all_goals repeat' first|refine fI ?_ ?_|refine cv ?_ ?_
       all_goals
        refine cZ (dw (Tok.mk 1 (d4 x) a) (by show (d4 x).size<=_;rw[mY];exact hsz)) ?_ ?_<;>simp only[tt,seval,Tok.row]
       all_goals
        cases ho:aR (Tok.mk 1 (d4 x) a) with
        |true=>
         have e1:cu l a b=some ((Tok.mk 1 (d4 x) a),bM l a):=iB hraw ho
         rw[e1]
         refine⟨.tu [(aw (Tok.mk 1 (d4 x) a).row,false),([.v (.int .i64 ((bM l a:Nat):Int))],true),([.v (.bool true)],true)],[],⟨(Tok.mk 1 (d4 x) a),_,_,rfl,by rfl,fun t' e' h=>by cases h;exact⟨rfl,rfl⟩⟩,aq ?_⟩
         simp only[tt,seval,Tok.row]
        |false=>
         have e1:cu l a b=none:=jG hraw ho
         rw[e1]
         refine⟨.tu [(aw (Tok.mk 1 (d4 x) a).row,false),([.v (.int .i64 ((bM l a:Nat):Int))],true),([.v (.bool false)],true)],[],⟨(Tok.mk 1 (d4 x) a),_,_,rfl,by rfl,by first|exact fun t' e' h=>by cases h|exact fun _ _ h=>(by cases h)⟩,aq ?_⟩
         simp only[tt,seval,Tok.row]
   ·have ej:j=bM l a:=by rw[<-he,Bl aa]
    subst ej
    simp only[tt,seval,h8,hlt]
    have hsz:(d6 l a (bM l a)).size<=1048576:=by rw[x4];omega
    refine dDrawn.intro [] (dW [0,2,4,6,8,11,12,15]) ae ?_
    simp only[tt,seval]
    all_goals try simp only[tt,seval,h8]
    all_goals rw[yA ae (show s.size<=9223372036854775807 by omega) aa aa aa,Int.toNat_natCast,Int.toNat_natCast,yH hl]
    generalize hx:d6 l a (bM l a)=x at *
    simp only[tt,seval]
    refine cZ (oY b.toNat) ?_ ?_<;>simp only[tt,seval]
    cases hF:decide ((48:Int)<=(b.toNat:Int)/\(b.toNat:Int)<=57) with
    |true=>
     have hF':=of_decide_eq_true hF
     have hL:mL b.toNat=false:=by unfold mL;simp only[Bool.or_eq_false_iff,decide_eq_false_iff_not];omega
     have eF:((48:Int)<=(b.toNat:Int)/\(b.toNat:Int)<=57)=True:=eq_true hF'
     have hraw:dE l a b=some (⟨3,x,a⟩,bM l a):=by
      unfold dE
      simp only[cJ,d5,hL,hF,if_true,Bool.false_eq_true,if_false,hx]
     simp only[tt,seval,eF]
     refine dDrawn.intro [] (dW [0,2,4,7,9,10,12]) ae ?_
     simp only[tt,seval]
     all_goals try simp only[tt,seval,h8]
     all_goals repeat' first|refine fI ?_ ?_|refine cv ?_ ?_
     all_goals
      refine cZ (dw (Tok.mk 3 x a) hsz) ?_ ?_<;>simp only[tt,seval,Tok.row]
     all_goals
      cases ho:aR (Tok.mk 3 x a) with
      |true=>
       have e1:cu l a b=some ((Tok.mk 3 x a),bM l a):=iB hraw ho
       rw[e1]
       refine⟨.tu [(aw (Tok.mk 3 x a).row,false),([.v (.int .i64 ((bM l a:Nat):Int))],true),([.v (.bool true)],true)],[],⟨(Tok.mk 3 x a),_,_,rfl,by rfl,fun t' e' h=>by cases h;exact⟨rfl,rfl⟩⟩,aq ?_⟩
       simp only[tt,seval,Tok.row]
      |false=>
       have e1:cu l a b=none:=jG hraw ho
       rw[e1]
       refine⟨.tu [(aw (Tok.mk 3 x a).row,false),([.v (.int .i64 ((bM l a:Nat):Int))],true),([.v (.bool false)],true)],[],⟨(Tok.mk 3 x a),_,_,rfl,by rfl,by first|exact fun t' e' h=>by cases h|exact fun _ _ h=>(by cases h)⟩,aq ?_⟩
       simp only[tt,seval,Tok.row]
    |false=>
     have hF':=of_decide_eq_false hF
     have hL:mL b.toNat=true:=by rw[hF,Bool.or_false] at hP;exact hP
     have eF:((48:Int)<=(b.toNat:Int)/\(b.toNat:Int)<=57)=False:=eq_false hF'
     have hraw:dE l a b=some (if key x=0 then ⟨2,x,a⟩ else ⟨1,d4 x,a⟩,bM l a):=by
      unfold dE
      simp only[cJ,hL,if_true,hx]
     simp only[tt,seval,eF]
     refine cZ (qU x hsz) ?_ ?_<;>simp only[tt,seval]
     by_cases hk:key x=0
     ·rw[if_pos hk] at hraw
      have ek:(!decide (key x=0))=false:=by rw[ax hk];rfl
      have ek':(¬key x=0)=False:=eq_false (not_not_intro hk)
      have ek2:(key x=0)=True:=eq_true hk
      simp only[tt,seval,ek2]
      refine dDrawn.intro [] (dW [0,2,4,7,9,10,12]) ae ?_
      simp only[tt,seval]
      all_goals try simp only[tt,seval,h8]
      all_goals repeat' first|refine fI ?_ ?_|refine cv ?_ ?_
      all_goals
       refine cZ (dw (Tok.mk 2 x a) hsz) ?_ ?_<;>simp only[tt,seval,Tok.row]
      all_goals
       cases ho:aR (Tok.mk 2 x a) with
       |true=>
        have e1:cu l a b=some ((Tok.mk 2 x a),bM l a):=iB hraw ho
        rw[e1]
        refine⟨.tu [(aw (Tok.mk 2 x a).row,false),([.v (.int .i64 ((bM l a:Nat):Int))],true),([.v (.bool true)],true)],[],⟨(Tok.mk 2 x a),_,_,rfl,by rfl,fun t' e' h=>by cases h;exact⟨rfl,rfl⟩⟩,aq ?_⟩
        simp only[tt,seval,Tok.row]
       |false=>
        have e1:cu l a b=none:=jG hraw ho
        rw[e1]
        refine⟨.tu [(aw (Tok.mk 2 x a).row,false),([.v (.int .i64 ((bM l a:Nat):Int))],true),([.v (.bool false)],true)],[],⟨(Tok.mk 2 x a),_,_,rfl,by rfl,by first|exact fun t' e' h=>by cases h|exact fun _ _ h=>(by cases h)⟩,aq ?_⟩
        simp only[tt,seval,Tok.row]
     ·rw[if_neg hk] at hraw
      have ek2:(key x=0)=False:=eq_false hk
      simp only[tt,seval,ek2]
      refine cZ (qC x hsz) ?_ ?_<;>simp only[tt,seval]
      refine dDrawn.intro [] (dW [0,2,4,7,9,10,12]) ae ?_
      simp only[tt,seval]
      all_goals try simp only[tt,seval,h8]
      all_goals repeat' first|refine fI ?_ ?_|refine cv ?_ ?_
      all_goals
       refine cZ (dw (Tok.mk 1 (d4 x) a) (by show (d4 x).size<=_;rw[mY];exact hsz)) ?_ ?_<;>simp only[tt,seval,Tok.row]
      all_goals
       cases ho:aR (Tok.mk 1 (d4 x) a) with
       |true=>
        have e1:cu l a b=some ((Tok.mk 1 (d4 x) a),bM l a):=iB hraw ho
        rw[e1]
        refine⟨.tu [(aw (Tok.mk 1 (d4 x) a).row,false),([.v (.int .i64 ((bM l a:Nat):Int))],true),([.v (.bool true)],true)],[],⟨(Tok.mk 1 (d4 x) a),_,_,rfl,by rfl,fun t' e' h=>by cases h;exact⟨rfl,rfl⟩⟩,aq ?_⟩
        simp only[tt,seval,Tok.row]
       |false=>
        have e1:cu l a b=none:=jG hraw ho
        rw[e1]
        refine⟨.tu [(aw (Tok.mk 1 (d4 x) a).row,false),([.v (.int .i64 ((bM l a:Nat):Int))],true),([.v (.bool false)],true)],[],⟨(Tok.mk 1 (d4 x) a),_,_,rfl,by rfl,by first|exact fun t' e' h=>by cases h|exact fun _ _ h=>(by cases h)⟩,aq ?_⟩
        simp only[tt,seval,Tok.row]
 |false=>
  obtain⟨hL,hF⟩:=Bool.or_eq_false_iff.1 hP
  simp only[tt,seval]
  by_cases hb34:b=34
  ·have d34:decide ((b.toNat:Int)=34)=true:=ax (by rw[hb34];rfl)
   have e39:((b.toNat:Int)=39)=False:=eq_false (by rw[hb34];decide)
   simp only[tt,seval,d34]
   have cq:=oK s a b hs (by rw[<-hl];exact hb)
   rw[<-hl] at cq
   refine cZ (cq) ?_ ?_<;>simp only[tt,seval]
   have hqs:=fun x e=>fE (B:=l) (q:=b) (n:=l.length+1) (i:=a+1) (l:=[]) (x:=x) (e:=e)
   cases hq:eC l b (l.length+1) (a+1) [] with
   |none=>
    have hr:dE l a b=none:=by rw[hb34] at hq ⊢;rw[Dr,hq];rfl
    have e1:cu l a b=none:=by unfold cu;rw[hr]
    rw[e1]
    simp only[tt,seval,x5]
    refine⟨.tu [(aw (Tok.mk 0 ⟨#[]⟩ 0).row,false),([.v (.int .i64 0)],true),([.v (.bool false)],true)],[],⟨Tok.mk 0 ⟨#[]⟩ 0,_,_,by first|exact⟨rfl,rfl,fun _ _ h=>by cases h⟩|exact⟨rfl,rfl⟩|rfl⟩,aq ?_⟩
    simp only[tt,seval,Tok.row]
    first|done|rfl
   |some y=>
    obtain⟨x,e⟩:=y
    have hr:dE l a b=some (⟨2,⟨x.toArray⟩,a⟩,e):=by rw[hb34] at hq ⊢;rw[Dr,hq];rfl
    have hqs:=hqs x e hq
    simp only[tt,seval,x5,e39]
    refine dDrawn.intro [] (dW [0,2,4,7,9,10,12]) ae ?_
    simp only[tt,seval]
    all_goals repeat' first|refine fI ?_ ?_|refine cv ?_ ?_
    all_goals
     refine cZ (dw (Tok.mk 2 ⟨x.toArray⟩ a) (by show x.length<=_;simp only[List.length_nil] at hqs;omega)) ?_ ?_<;>simp only[tt,seval,Tok.row]
    all_goals
     cases ho:aR (Tok.mk 2 ⟨x.toArray⟩ a) with
     |true=>
      have e1:cu l a b=some ((Tok.mk 2 ⟨x.toArray⟩ a),e):=iB hr ho
      rw[e1]
      refine⟨.tu [(aw (Tok.mk 2 ⟨x.toArray⟩ a).row,false),([.v (.int .i64 ((e:Nat):Int))],true),([.v (.bool true)],true)],[],⟨(Tok.mk 2 ⟨x.toArray⟩ a),_,_,rfl,by rfl,fun t' e' h=>by cases h;exact⟨rfl,rfl⟩⟩,aq ?_⟩
      simp only[tt,seval,Tok.row]
     |false=>
      have e1:cu l a b=none:=jG hr ho
      rw[e1]
      refine⟨.tu [(aw (Tok.mk 2 ⟨x.toArray⟩ a).row,false),([.v (.int .i64 ((e:Nat):Int))],true),([.v (.bool false)],true)],[],⟨(Tok.mk 2 ⟨x.toArray⟩ a),_,_,rfl,by rfl,by first|exact fun t' e' h=>by cases h|exact fun _ _ h=>(by cases h)⟩,aq ?_⟩
      simp only[tt,seval,Tok.row]
  ·have d34:decide ((b.toNat:Int)=34)=false:=aB fun h=>hb34 (UInt8.toNat_inj.1 (by show b.toNat=34;omega))
   by_cases hb39:b=39
   ·have d39:decide ((b.toNat:Int)=39)=true:=ax (by rw[hb39];rfl)
    have e39:((b.toNat:Int)=39)=True:=eq_true (by rw[hb39];rfl)
    simp only[tt,seval,d34,d39]
    have cq:=oK s a b hs (by rw[<-hl];exact hb)
    rw[<-hl] at cq
    refine cZ (cq) ?_ ?_<;>simp only[tt,seval]
    have hqs:=fun x e=>fE (B:=l) (q:=b) (n:=l.length+1) (i:=a+1) (l:=[]) (x:=x) (e:=e)
    cases hq:eC l b (l.length+1) (a+1) [] with
    |none=>
     have hr:dE l a b=none:=by rw[hb39] at hq ⊢;rw[Ds,hq];rfl
     have e1:cu l a b=none:=by unfold cu;rw[hr]
     rw[e1]
     simp only[tt,seval,x5]
     refine⟨.tu [(aw (Tok.mk 0 ⟨#[]⟩ 0).row,false),([.v (.int .i64 0)],true),([.v (.bool false)],true)],[],⟨Tok.mk 0 ⟨#[]⟩ 0,_,_,by first|exact⟨rfl,rfl,fun _ _ h=>by cases h⟩|exact⟨rfl,rfl⟩|rfl⟩,aq ?_⟩
     simp only[tt,seval,Tok.row]
     first|done|rfl
    |some y=>
     obtain⟨x,e⟩:=y
     have hr:dE l a b=some (⟨4,⟨x.toArray⟩,a⟩,e):=by rw[hb39] at hq ⊢;rw[Ds,hq];rfl
     have hqs:=hqs x e hq
     simp only[tt,seval,x5,e39]
     refine dDrawn.intro [] (dW [0,2,4,7,9,10,12]) ae ?_
     simp only[tt,seval]
     all_goals repeat' first|refine fI ?_ ?_|refine cv ?_ ?_
     all_goals
      refine cZ (dw (Tok.mk 4 ⟨x.toArray⟩ a) (by show x.length<=_;simp only[List.length_nil] at hqs;omega)) ?_ ?_<;>simp only[tt,seval,Tok.row]
     all_goals
      cases ho:aR (Tok.mk 4 ⟨x.toArray⟩ a) with
      |true=>
       have e1:cu l a b=some ((Tok.mk 4 ⟨x.toArray⟩ a),e):=iB hr ho
       rw[e1]
       refine⟨.tu [(aw (Tok.mk 4 ⟨x.toArray⟩ a).row,false),([.v (.int .i64 ((e:Nat):Int))],true),([.v (.bool true)],true)],[],⟨(Tok.mk 4 ⟨x.toArray⟩ a),_,_,rfl,by rfl,fun t' e' h=>by cases h;exact⟨rfl,rfl⟩⟩,aq ?_⟩
       simp only[tt,seval,Tok.row]
      |false=>
       have e1:cu l a b=none:=jG hr ho
       rw[e1]
       refine⟨.tu [(aw (Tok.mk 4 ⟨x.toArray⟩ a).row,false),([.v (.int .i64 ((e:Nat):Int))],true),([.v (.bool false)],true)],[],⟨(Tok.mk 4 ⟨x.toArray⟩ a),_,_,rfl,by rfl,by first|exact fun t' e' h=>by cases h|exact fun _ _ h=>(by cases h)⟩,aq ?_⟩
       simp only[tt,seval,Tok.row]
   ·have d39:decide ((b.toNat:Int)=39)=false:=aB fun h=>hb39 (UInt8.toNat_inj.1 (by show b.toNat=39;omega))
    have hraw:dE l a b=some (⟨5,d6 l a (eN l a),a⟩,eN l a):=by
     unfold dE
     simp only[cJ,d5,hL,hF,hb34,hb39,Bool.false_eq_true,if_false]
    simp only[tt,seval,d34,d39]
    refine cZ (zm) ?_ ?_<;>simp only[tt,seval]
    refine dLoop.intro (fun f' L p=>∃(i:Nat) (t:ByteArray),f' 24=vi i/\i<=16/\BestI (signs.take i) (l.drop a) t/\L=[(7,.str [.v (.int .i64 5),.v (.string t),.v (.int .i64 a)]),(4,.str [.v (.int .i64 0),.v (.string ByteArray.empty),.v (.int .i64 0)])]/\p=none) (fun f' _ _=>(16-fH (f' 24)).toNat) [(7,.str [.v (.int .i64 5),.v (.string ByteArray.empty),.v (.int .i64 a)]),(4,.str [.v (.int .i64 0),.v (.string ByteArray.empty),.v (.int .i64 0)])] none ⟨ak rfl (ak rfl (ap _)),au _,?_⟩ ?_
    ·simp only[tt,seval]
     exact⟨0,ByteArray.empty,rfl,aa,BestI.nil _,rfl⟩
    ·rintro g L p ⟨i,t,h24,hi,hbest,rfl,rfl⟩
     simp only[tt,seval] at h24
     have ht20:t.size<=2:=by
      rcases hbest.got with rfl|⟨h1,_⟩
      ·exact Nat.zero_le _
      ·exact (kP _ (List.mem_of_mem_take h1)).2
     have i16:((16:Nat):Int)=16:=rfl
     simp only[tt,seval,h24]
     by_cases hlt:i<16
     ·have hls:i<signs.length:=hlt
      have c1:((i:Int)<16)=True:=eq_true aa
      have hst:signs.take (i+1)=signs.take i++[signs[i]]:=List.take_succ_eq_append_getElem hls
      have hx:signs[i]?=some signs[i]:=aC hls
      have hsz:=kP _ (aM hls)
      simp only[tt,seval,c1]
      refine⟨aa,_,aI fM hx,ky _ _,?_⟩
      generalize signs[i]=sg at *
      simp only[tt,seval,srow]
      rw[qK ae (show s.size<=9223372036854775807 by omega) aa aa,Int.toNat_natCast,vc hl]
      simp only[tt,seval]
      have cp:=mc ⟨(l.drop a).toArray⟩ sg
      have epx:Lib.hasPrefix (⟨(l.drop a).toArray⟩:ByteArray).data.toList sg.data.toList=sg.data.toList.isPrefixOf (l.drop a):=rfl
      rw[epx] at cp
      refine cZ (cp) ?_ ?_<;>simp only[tt,seval]
      cases hpx:sg.data.toList.isPrefixOf (l.drop a) with
      |true=>
       have hpx':=List.isPrefixOf_iff_prefix.1 hpx
       simp only[tt,seval,h24]
       refine fun _ _=>ab (fun h=>?_) (fun h=>?_)
       ·rw[eR i aa]
        exact⟨[(7,.str [.v (.int .i64 5),.v (.string sg),.v (.int .i64 a)]),(4,.str [.v (.int .i64 0),.v (.string ByteArray.empty),.v (.int .i64 0)])],none,ak rfl (ak rfl (ap _)),au _,⟨i+1,sg,rfl,aa,by rw[hst];exact hbest.yes hpx' aa,rfl,rfl⟩,az⟩
       ·rw[eR i aa]
        exact⟨[(7,.str [.v (.int .i64 5),.v (.string t),.v (.int .i64 a)]),(4,.str [.v (.int .i64 0),.v (.string ByteArray.empty),.v (.int .i64 0)])],none,ak rfl (ak rfl (ap _)),au _,⟨i+1,t,rfl,aa,by rw[hst];exact hbest.no fun _=>by omega,rfl,rfl⟩,az⟩
      |false=>
       have hpx':¬sg.data.toList <+: l.drop a:=fun h=>by rw[List.isPrefixOf_iff_prefix.2 h] at hpx;cases hpx
       simp only[tt,seval,h24]
       rw[eR i aa]
       exact⟨[(7,.str [.v (.int .i64 5),.v (.string t),.v (.int .i64 a)]),(4,.str [.v (.int .i64 0),.v (.string ByteArray.empty),.v (.int .i64 0)])],none,ak rfl (ak rfl (ap _)),au _,⟨i+1,t,rfl,aa,by rw[hst];exact hbest.no fun h=>absurd h hpx',rfl,rfl⟩,az⟩
     ·have hi16:i=16:=by omega
      subst hi16
      have c1:(((16:Nat):Int)<16)=False:=eq_false aa
      have hbest:BestI signs (l.drop a) t:=hbest
      simp only[tt,seval]
      refine fun _=>?_
      rw[aE (n:=(a:Int)+t.size) aa aa]
      refine dDrawn.intro [] (dW [0,2,4,7,9,10,12]) ae ?_
      simp only[tt,seval]
      all_goals try simp only[tt,seval,h24]
      all_goals repeat' first|refine fI ?_ ?_|refine cv ?_ ?_
      all_goals
       refine cZ (dw (Tok.mk 5 t a) (by show t.size<=_;omega)) ?_ ?_<;>simp only[tt,seval,Tok.row]
      all_goals
       rcases Bm ha hbest with⟨ht,hte⟩|⟨ht,hte⟩
       ·cases ho:aR (Tok.mk 5 t a) with
        |true=>
         have e1:cu l a b=some (Tok.mk 5 t a,eN l a):=iB (by rw[ht];exact hraw) ho
         rw[e1]
         refine⟨.tu [(aw (Tok.mk 5 t a).row,false),([.v (.int .i64 (eN l a:Nat))],true),([.v (.bool true)],true)],[],⟨Tok.mk 5 t a,_,_,rfl,by rfl,fun t' e' h=>by cases h;exact⟨rfl,rfl⟩⟩,aq ?_⟩
         simp only[tt,seval,Tok.row]
         omega
        |false=>
         have e1:cu l a b=none:=jG hraw (by rw[<-ht];exact ho)
         rw[e1]
         refine⟨.tu [(aw (Tok.mk 5 t a).row,false),([.v (.int .i64 ((a:Int)+t.size))],true),([.v (.bool false)],true)],[],⟨Tok.mk 5 t a,_,_,rfl,by rfl,by first|exact fun t' e' h=>by cases h|exact fun _ _ h=>(by cases h)⟩,aq ?_⟩
         simp only[tt,seval,Tok.row]
       ·have ho:aR (Tok.mk 5 t a)=false:=ht
        have e1:cu l a b=none:=jG hraw hte
        rw[e1]
        refine⟨.tu [(aw (Tok.mk 5 t a).row,false),([.v (.int .i64 ((a:Int)+t.size))],true),([.v (.bool false)],true)],[],⟨Tok.mk 5 t a,_,_,rfl,by rfl,by first|exact fun t' e' h=>by cases h|exact fun _ _ h=>(by cases h)⟩,aq ?_⟩
        simp only[tt,seval,Tok.row,ho]
set_option maxHeartbeats 4000000 in
theorem Dw (s:ByteArray):Cl Tryz.prog 110 [vs s] [] fun r _=>r = .tu [([.sl (Dt (lg s)).1.length ((Dt (lg s)).1.flatMap Tok.row) none],true),([.v (.int .i64 (Dt (lg s)).2)],true)]:=by
 obtain⟨l,hl⟩:∃l,l=s.data.toList:=⟨_,rfl⟩
 have hll:l.length=s.size:=by rw[hl];exact aK s
 obtain⟨rr,hrr⟩:=uB (B:=l) (l.length+1) 0 [] aa aa
 refine ai ac false Tryz.func110 rfl ae ?_
 simp only[Tryz.f110,tt,seval]
 refine fun _=>ab (fun hg=>?_) (fun hg=>?_)
 ·have e:lg s = .inr 2000:=by unfold lg;rw[if_pos aa]
  rw[e]
  refine⟨.tu [([.sl 0 [] none],true),([.v (.int .i64 2000)],true)],[],rfl,aq ?_⟩
  simp only[tt,seval]
 have hs:s.size<=1048576:=by omega
 have e:lg s=rr:=by unfold lg;rw[if_neg aa,<-hl,hrr];rfl
 rw[e]
 refine dLoop.gh [.ren 14 42] ⟨ah,ah,?_⟩
 refine dLoop0.intro (fun f' L p=>∃(i n:Nat) (m:List Tok),f' 5=vi i/\f' 4 = .c (.s 42 m.length)/\i<=s.size/\m.length<=i/\qp l n i m=some rr/\l.length+1<=n+i/\L=[(42,.arr 129 m.length (m.flatMap Tok.row) none)]/\p=none) (fun f' _ _=>(s.size-fH (f' 5)).toNat) [(42,.arr 129 0 [] none)] none ⟨ak rfl (ap _),au _,?_⟩ ?_
 ·simp only[tt,seval]
  exact⟨0,l.length+1,[],rfl,rfl,aa,by simp,hrr,aa,rfl⟩
 ·rintro g L p ⟨i,n,m,h5,h4,hi,hml,he,hn,rfl,rfl⟩
  simp only[tt,seval] at h5 h4
  cases n with
  |zero=>exact absurd hn aa
  |succ n=>
  rw[qp] at he
  obtain⟨q,okb,hp,hiq,hqs⟩:=gp (B:=l) (l.length+1) i aa aa
  rw[hp] at he
  simp only at he
  have cp:=Ib s i hs hi
  rw[<-hl,hp] at cp
  simp only[tt,seval,h5]
  refine cZ (cp) ?_ ?_<;>simp only[tt,seval,h4,Jm]
  cases okb with
  |false=>
   rw[if_pos rfl] at he
   injection he with he;subst he
   simp only[tt,seval]
   refine⟨.tu [([.sl 0 [] none],true),([.v (.int .i64 (q:Nat))],true)],[],rfl,aq ?_⟩
   simp only[tt,seval]
  |true=>
   rw[if_neg (by simp)] at he
   simp only[tt,seval]
   refine fun _=>?_
   by_cases hqe:s.size<=q
   ·have hq1:((q:Int)=(s.size:Int))=True:=eq_true aa
    have hq2:(q=s.size)=True:=eq_true aa
    rw[List.getElem?_eq_none_iff.2 aa] at he
    simp only at he
    injection he with he;subst he
    simp only[tt,seval,hq1]
    refine⟨.tu [([.sl m.length (m.flatMap Tok.row) none],true),([.v (.int .i64 (-1))],true)],[],rfl,aq ?_⟩
    simp only[tt,seval]
   ·have hq1:((q:Int)=(s.size:Int))=False:=eq_false aa
    have hq2:(q=s.size)=False:=eq_false aa
    have hql:q<l.length:=by omega
    have hb:l[q]?=some l[q]:=aC hql
    rw[hb] at he
    simp only at he
    have co:=x6 s q l[q] hs (by rw[<-hl];exact hb)
    rw[<-hl] at co
    have osp:=fun t e=>np (e:=e) (t:=t) hb
    generalize l[q]=b at *
    simp only[tt,seval,hq1]
    cases ho:cu l q b with
    |none=>
     rw[ho] at he co
     simp only at he
     injection he with he;subst he
     refine iZ (co) ?_ ?_ ?_
     ·decide
     ·simp only[tt,seval]
     rintro r ⟨t,e2,ok2,rfl,rfl,_⟩
     simp only[tt,seval,h4,Tok.row,Option.isSome_none]
     refine⟨.tu [([.sl 0 [] none],true),([.v (.int .i64 (q:Nat))],true)],[],rfl,aq ?_⟩
     simp only[tt,seval]
    |some y=>
     obtain⟨t,e⟩:=y
     rw[ho] at he co
     simp only at he
     obtain⟨he1,he2,_⟩:=osp t e ho
     refine iZ (co) ?_ ?_ ?_
     ·decide
     ·simp only[tt,seval]
     rintro r ⟨t',e2,ok2,rfl,rfl,ht⟩
     simp only[tt,seval,h4,Tok.row]
     obtain⟨rfl,rfl⟩:=ht t e rfl
     refine qA ?_
     refine⟨[(42,.arr 129 (m++[t']).length ((m++[t']).flatMap Tok.row) none)],none,by simp only[List.flatMap_append,aD,List.flatMap_cons,List.flatMap_nil,List.append_nil,Tok.row];exact ak rfl (ap _),au _,⟨e,n,m++[t'],rfl,by simp,aa,by simp;omega,he,aa,rfl,rfl⟩,az⟩
end Go.Proofs.YtdmomaomffhidaaGreatDoor
