/-
  Words, numbers and tokens; trees.
  Conditions: none.
-/
import Derived.Test.YtoegnikpokgbfaaGreatDoorMITypes
import Derived.Shelf.Strings.BuilderF
import Derived.Shelf.LaysM
import Derived.Shelf.LaysC
import Derived.Shelf.Strconv.Itoa3
import Derived.Shelf.Strings.Split
import Derived.Shelf.Strings.Replace
import Derived.Shelf.Strconv.AtoiAll
import Derived.Test.YtoegnikpokgbfaaGreatDoorProg
import Derived.Lib.UnsafeStr
import Derived.Lib.AtoiTie
set_option linter.unusedVariables false
set_option linter.unusedSimpArgs false
set_option linter.unusedSectionVars false
set_option linter.unnecessarySimpa false
set_option maxRecDepth 8000
namespace Go.Proofs.YtoegnikpokgbfaaGreatDoor
open Go Go.Dv
open Go.Vc (D cF cG cv aX)
abbrev int (n:Int):D:=.lit (.int .i64 n)
abbrev bool (b:Bool):D:=.lit (.bool b)
abbrev str (s:ByteArray):D:=.lit (.string s)
abbrev vi (n:Int):S:=.c (.v (.int .i64 n))
abbrev vb (b:Bool):S:=.c (.v (.bool b))
abbrev vs (s:ByteArray):S:=.c (.v (.string s))
structure Val where
 kind:Int
 num:Int
 text:ByteArray
def Val.row (v:Val):List D:=[int v.kind,int v.num,str v.text]
structure Fa where
 code:Int
 name:ByteArray
def cz (l:Int) (s:Nat):Int:=if (s:Int)<=l then l-s else -1
def jt (v:Val):Nat:=v.text.size
theorem fw {l:Int} {s:Nat} (h0:0<=l) : -1<=cz l s/\cz l s<=l:=by unfold cz;split<;>omega
theorem sK {l:Int} {a b:Nat} (h:0<=cz l a):cz l (a+b)=cz (cz l a) b:=by
 unfold cz at *
 split at h
 ·rename_i h1
  rw[if_pos h1]
  by_cases h2:((a+b:Nat):Int)<=l
  ·rw[if_pos h2,if_pos aa];omega
  ·rw[if_neg h2,if_neg aa]
 ·omega
theorem oE {l:Int} {a b:Nat} (h:cz l a<0) (h0:0<=l):cz l (a+b) = -1:=by
 unfold cz at *
 split at h
 ·omega
 ·exact if_neg aa
theorem o6 {a b:Int} (h:a=b):vi a=vi b:=by rw[h]
theorem zo {a b:ByteArray} (h:a=b):vs a=vs b:=by rw[h]
theorem aY {a b:Bool} (h:a=b):vb a=vb b:=by rw[h]
theorem qn {α:Type} (g:α->Nat) {l:List α} {i:Nat} (h:i<l.length):((l.take (i+1)).map g).sum=((l.take i).map g).sum+g l[i]:=by
 rw[List.take_succ_eq_append_getElem h,List.map_append,List.sum_append];simp only[List.map_cons,List.map_nil,List.sum_cons,List.sum_nil,Nat.add_zero]
theorem fx {α:Type} (g:α->Nat) (l:List α) (i:Nat):∃r,(l.map g).sum=((l.take i).map g).sum+r:=⟨((l.drop i).map g).sum,by
 conv=>lhs;rw[<-List.take_append_drop i l]
 rw[List.map_append,List.sum_append]⟩
theorem dS (a l h:Int):Cl Tryz.prog 132 [vi a,vi l,vi h] [] fun r _=>r=vb (decide (l<=a/\a<=h)):=by
 refine am ah false Tryz.func132 rfl ac ?_
 simp only[Tryz.f132,tt,seval]
 all_goals repeat' first|(refine ab (fun h=>?_) (fun h=>?_)<;>try simp only[tt,seval])|(intro _;try simp only[tt,seval])
 all_goals (refine⟨_,[],aY (Bool.eq_iff_iff.2 ?_),ao rfl⟩)
 all_goals (simp only[decide_eq_true_eq,decide_eq_false_iff_not,Bool.false_eq_true,false_iff] at *)
 all_goals omega
def Hq (a:Int):Bool:=decide (97<=a/\a<=122)||decide (65<=a/\a<=90)||decide (a=95)
theorem oF (s:ByteArray):Cl Tryz.prog 166 [vs s] [] fun r _=>r=vb (decide (1<=s.size/\s.size<=20)):=by
 refine am ah false Tryz.func166 rfl ac ?_
 simp only[Tryz.f166,tt,seval]
 refine fun hs=>?_
 refine cZ (dS s.size 1 20) ?_ ?_<;>simp only[tt,seval]
 exact⟨_,_,aY (by simp only[decide_eq_decide];omega),ao rfl⟩
theorem iD (s:ByteArray):Cl Tryz.prog 199 [vs s] [] fun r _=>r=vb (decide (1<=s.size/\s.size<=20)):=by
 refine am ah false Tryz.func199 rfl ac ?_
 simp only[Tryz.f199,tt,seval]
 refine fun hs=>?_
 all_goals repeat' first|(refine ab (fun h=>?_) (fun h=>?_)<;>try simp only[tt,seval])|(intro _;try simp only[tt,seval])
 all_goals (refine⟨_,[],aY (Bool.eq_iff_iff.2 ?_),ao rfl⟩)
 all_goals (simp only[decide_eq_true_eq,decide_eq_false_iff_not,Bool.false_eq_true,false_iff] at *)
 all_goals omega
def up8 (b:UInt8):UInt8:=if 97<=b.toNat/\b.toNat<=122 then b-32 else b
def oG (s:ByteArray):ByteArray:=⟨(s.data.toList.map up8).toArray⟩
theorem uM (l:List UInt8):(bS l).length=l.length:=by simp [bS]
theorem sL {l:List UInt8} {i:Nat} (h:i<l.length):(bS l).drop i=D.lit (.int .u8 (l[i].toNat:Int))::(bS l).drop (i+1):=by
 unfold bS
 rw[<-List.map_drop,<-List.map_drop,List.drop_eq_getElem_cons h];rfl
theorem uN {l:List UInt8} {i:Nat} {b:UInt8} (h:i<l.length):(bS l).take i++(D.lit (.int .u8 (b.toNat:Int))::(bS l).drop (i+1))=bS (l.set i b):=by
 unfold bS
 rw[List.set_eq_take_append_cons_drop,if_pos h,List.map_append,List.map_cons,List.map_take,List.map_drop]
theorem cQ (s:ByteArray):s.data.toList.length=s.size:=by simp
def uI (l:List UInt8) (i:Nat):List UInt8:=(l.take i).map up8++l.drop i
theorem lU (l:List UInt8) (i:Nat):(uI l i).length=l.length:=by rw[uI,aA,List.length_map,<-aA,List.take_append_drop]
theorem wC {l:List UInt8} {i:Nat} (h:i<l.length):(uI l i)[i]'(by rw[lU];exact h)=l[i]:=by
 have hl:((l.take i).map up8).length=i:=by simp;omega
 have:(uI l i)[i]?=some l[i]:=by
  rw[uI,List.getElem?_append_right aa,hl,Nat.sub_self,List.drop_eq_getElem_cons h];rfl
 rw[aC (by rw[lU];exact h)] at this
 exact Option.some.inj this
theorem sM {l:List UInt8} {i:Nat} (h:i<l.length):(uI l i).set i (up8 l[i])=uI l (i+1):=by
 have hl:((l.take i).map up8).length=i:=by simp;omega
 unfold uI
 rw[List.set_append_right _ _ aa,hl,Nat.sub_self,List.drop_eq_getElem_cons h,List.set_cons_zero,List.take_succ_eq_append_getElem h,List.map_append]
 simp
theorem sN {l:List UInt8} {i:Nat} (h:i<l.length) (hu:up8 l[i]=l[i]):uI l i=uI l (i+1):=by
 rw[<-sM h,hu]
 conv=>rhs;rw[<-wC h]
 rw[List.set_getElem_self]
theorem BD (l:List UInt8):uI l l.length=l.map up8:=by simp [uI]
theorem zp {b:UInt8} (h:¬(97<=b.toNat/\b.toNat<=122)):up8 b=b:=if_neg h
theorem BE {b:UInt8} (h:97<=b.toNat) (h':b.toNat<=122):((up8 b).toNat:Int)=b.toNat-32:=by
 unfold up8
 rw[if_pos ⟨h,h'⟩,UInt8.toNat_sub_of_le _ _ (by rw[UInt8.le_iff_toNat_le];show 32<=_;omega)]
 show ((b.toNat-32:Nat):Int)=_
 omega
theorem wD (s:ByteArray) (hs:s.size<=1048576):Cl Tryz.prog 309 [vs s] [] fun r _=>r=vs (oG s):=by
 obtain⟨l,hl⟩:∃l,l=s.data.toList:=⟨_,rfl⟩
 have hll:l.length=s.size:=by rw[hl];exact cQ s
 refine am ah false Tryz.func309 rfl ac ?_
 simp only[Tryz.f309,tt,seval]
 rw[<-hl]
 refine fun _=>?_
 refine dLoop.intro (fun f L p=>∃i:Nat,f 10=vi i/\i<=s.size/\L=[(7,.arr 5 s.size (bS (uI l i)) none)]/\p=none) (fun f _ _=>(s.size-eO (f 10)).toNat) [(7,.arr 5 s.size (bS l) none)] none ⟨ak rfl (aq _),av _,?_⟩ ?_
 ·simp only[tt,seval]
  exact⟨0,rfl,aa,by simp [uI]⟩
 ·rintro g L p ⟨i,h4,hi,rfl,rfl⟩
  simp only[tt,seval] at h4
  simp only[tt,seval,h4,Int.ofNat_lt]
  refine ab (fun hlt=>?_) (fun hge=>?_)
  ·have hlt':i<(uI l i).length:=by rw[lU];omega
   have hd:=sL hlt'
   rw[wC aa] at hd
   have hi0:(0:Int)<=(i:Int):=Int.natCast_nonneg i
   have hlI:(i:Int)<(s.size:Int):=by omega
   simp only[tt,seval,hd,Nat.mul_one,hlt,hi0]
   refine ab (fun h=>?_) (fun h=>?_)
   ·simp only[tt,seval,h4,Nat.mul_one,hi0,hlI]
    simp only[decide_eq_true_eq] at h
    refine ab (fun h'=>?_) (fun h'=>?_)
    ·rw[aI (n:=(i:Int)+1) aa aa,IntWalk.u8_in ((l[i].toNat:Int)-97) ⟨aa,aa⟩,IntWalk.u8_in _ ⟨aa,aa⟩,show (l[i].toNat:Int)-97+65=l[i].toNat-32 by omega,<-BE aa aa,uN hlt',sM aa]
     exact⟨by rw[uM,lU];omega,_,none,ak rfl (aq _),av _,⟨i+1,rfl,aa,rfl,rfl⟩,aE⟩
    ·rw[dW i aa]
     have hsame:=sN (l:=l) (i:=i) aa (zp fun h1=>by omega)
     exact⟨_,none,ak rfl (aq _),av _,⟨i+1,rfl,aa,congrArg (fun x=>[(7,O.arr 5 s.size (bS x) none)]) hsame,rfl⟩,aE⟩
   ·simp only[tt,seval,h4,Nat.mul_one,hi0,hlI]
    rw[dW i aa]
    have hsame:=sN (l:=l) (i:=i) aa (zp fun h1=>by simp only[decide_eq_false_iff_not] at h;omega)
    exact⟨_,none,ak rfl (aq _),av _,⟨i+1,rfl,aa,congrArg (fun x=>[(7,O.arr 5 s.size (bS x) none)]) hsame,rfl⟩,aE⟩
  ·have:i=s.size:=by omega
   subst this
   refine⟨ac,by simp only[maxLen];omega,uI l s.size,by rw[lU];exact hll,rfl,?_⟩
   simp only[tt,seval]
   exact⟨_,_,zo (by rw[<-hll,BD,hl];rfl),ao rfl⟩
def srow (s:ByteArray):List D:=[str s]
theorem jC (n:ByteArray):(srow n).length=1:=rfl
theorem oe (v:ByteArray) (r:List D):srow v++r≠[]:=fun h=>by cases h
def kws:List ByteArray:=[⟨#[83,69,76,69,67,84]⟩,⟨#[68,73,83,84,73,78,67,84]⟩,⟨#[70,82,79,77]⟩,⟨#[74,79,73,78]⟩,⟨#[79,78]⟩,⟨#[87,72,69,82,69]⟩,⟨#[79,82,68,69,82]⟩,⟨#[66,89]⟩,⟨#[65,83,67]⟩,⟨#[68,69,83,67]⟩,⟨#[76,73,77,73,84]⟩,⟨#[65,83]⟩,⟨#[65,78,68]⟩,⟨#[79,82]⟩,⟨#[78,79,84]⟩,⟨#[73,83]⟩,⟨#[73,78]⟩,⟨#[66,69,84,87,69,69,78]⟩,⟨#[69,88,73,83,84,83]⟩,⟨#[78,85,76,76]⟩,⟨#[84,82,85,69]⟩,⟨#[70,65,76,83,69]⟩,⟨#[73,78,83,69,82,84]⟩,⟨#[73,78,84,79]⟩,⟨#[86,65,76,85,69,83]⟩,⟨#[85,80,68,65,84,69]⟩,⟨#[83,69,84]⟩,⟨#[68,69,76,69,84,69]⟩]
def sO:List ByteArray:=⟨#[]⟩::kws
theorem BF:List.range 29=[0,1,2,3,4,5,6,7,8,9,10,11,12,13,14,15,16,17,18,19,20,21,22,23,24,25,26,27,28]:=rfl
theorem G9 (α:Type) (a:α):List.replicate 29 a=[a,a,a,a,a,a,a,a,a,a,a,a,a,a,a,a,a,a,a,a,a,a,a,a,a,a,a,a,a]:=rfl
theorem BG {α:Type} {l:List α} {p:α->Bool} {i:Nat} (h:i<l.length) (hp:p l[i]=true) (hn:∀j (hj:j<i),p (l[j]'(by omega))=false):l.findIdx p=i:=(List.findIdx_eq h).2 ⟨hp,hn⟩
theorem BH {α:Type} {l:List α} {p:α->Bool} (hn:∀j (hj:j<l.length),p l[j]=false):l.findIdx p=l.length:=List.findIdx_eq_length_of_false fun x hx=>by
 obtain⟨j,hj,rfl⟩:=List.mem_iff_getElem.1 hx
 exact hn j hj
def oH (f:ByteArray) (l:List ByteArray):Int:=if l.findIdx (fun w=>decide (w=f))<l.length then l.findIdx (fun w=>decide (w=f)) else -1
def key (s:ByteArray):Int:=oH (oG s) kws+1
theorem wE (l:List ByteArray) (f:ByteArray):Cl Tryz.prog 313 [.c (.sl l.length (l.flatMap srow) none),vs f] [] fun r _=>r=vi (oH f l):=by
 refine am ah false Tryz.func313 rfl ac ?_
 simp only[Tryz.f313,tt,seval]
 refine fun _=>?_
 refine dLoop.intro (fun f' L p=>∃i:Nat,f' 8=vi i/\i<=l.length/\(∀j (hj:j<l.length),j<i->l[j]≠f)/\L=[]/\p=none) (fun f' _ _=>(l.length-eO (f' 8)).toNat) [] none ⟨aq _,av _,?_⟩ ?_
 ·simp only[tt,seval]
  exact⟨0,rfl,aa,fun j _ h=>absurd h (Nat.not_lt_zero _)⟩
 ·rintro g L p ⟨i,h8,hi,hn,rfl,rfl⟩
  simp only[tt,seval] at h8
  simp only[tt,seval,h8,Int.ofNat_lt]
  refine ab (fun hlt=>?_) (fun hge=>?_)
  ·refine⟨aa,aa,_,aD jC (aC hlt),oe _ _,?_⟩
   simp only[tt,seval,h8,srow]
   refine ab (fun he=>?_) (fun he=>?_)
   ·refine⟨_,_,o6 ?_,ao rfl⟩
    rw[oH,BG hlt (by simp [he]) (fun j hj=>by simpa using hn j aa hj),if_pos hlt]
   ·rw[dW i aa]
    exact⟨[],none,aq _,av _,⟨i+1,rfl,aa,fun j hj hji=>by
     by_cases e:j=i
     ·subst e;exact fun h=>he h.symm
     ·exact hn j hj aa,rfl,rfl⟩,aE⟩
  ·refine⟨_,_,o6 ?_,ao rfl⟩
   rw[oH,BH (fun j hj=>by simpa using hn j hj aa),if_neg aa]
theorem y4:∀w∈kws,w.size<=8:=by decide
theorem wF:kws.length=28:=rfl
end Go.Proofs.YtoegnikpokgbfaaGreatDoor
namespace Go.Proofs.YtoegnikpokgbfaaGreatDoor
open Go Go.Shelf Go.Proofs
def Tryz.lays146_ren:Go.Shelf.Ren:=⟨fun|146=>145|221=>207|268=>234|138=>235|143=>236|195=>250|197=>251|218=>252|219=>253|260=>267|217=>268|225=>269|224=>270|267=>271|266=>286|314=>287|n=>n,fun|9=>9|31=>151|3=>3|4=>4|0=>0|105=>228|21=>21|5=>5|46=>113|119=>252|139=>255|138=>254|146=>256|51=>165|n=>n,fun|1=>0|3=>2|4=>3|n=>n⟩
theorem Tryz.lays146:Go.Proofs.Lays.n146 Tryz.prog Tryz.lays146_ren:={
 mixed:=by kernel_rfl
 f138:=Tryz.func235.trans (congrArg some ac)
 f143:=Tryz.func236.trans (congrArg some ac)
 f146:=Tryz.func145.trans (congrArg some ac)
 f195:=Tryz.func250.trans (congrArg some ac)
 f197:=Tryz.func251.trans (congrArg some ac)
 f217:=Tryz.func268.trans (congrArg some ac)
 f218:=Tryz.func252.trans (congrArg some ac)
 f219:=Tryz.func253.trans (congrArg some ac)
 f221:=Tryz.func207.trans (congrArg some ac)
 f224:=Tryz.func270.trans (congrArg some ac)
 f225:=Tryz.func269.trans (congrArg some ac)
 f260:=Tryz.func267.trans (congrArg some ac)
 f266:=Tryz.func286.trans (congrArg some ac)
 f267:=Tryz.func271.trans (congrArg some ac)
 f268:=Tryz.func234.trans (congrArg some ac)
 f314:=Tryz.func287.trans (congrArg some ac)
 t0:=Tryz.underlying0
 a0:=Tryz.isAgg0
 z0:=Tryz.sizeOf0
 v0:=Tryz.zeroValue0
 t3:=Tryz.underlying3
 a3:=Tryz.isAgg3
 z3:=Tryz.sizeOf3
 v3:=Tryz.zeroValue3
 t4:=Tryz.underlying4
 a4:=Tryz.isAgg4
 z4:=Tryz.sizeOf4
 v4:=Tryz.zeroValue4
 t5:=Tryz.underlying5
 a5:=Tryz.isAgg5
 z5:=Tryz.sizeOf5
 v5:=Tryz.zeroValue5
 t9:=Tryz.underlying9
 a9:=Tryz.isAgg9
 z9:=Tryz.sizeOf9
 v9:=Tryz.zeroValue9
 t21:=Tryz.underlying21
 a21:=Tryz.isAgg21
 z21:=Tryz.sizeOf21
 v21:=Tryz.zeroValue21
 t31:=Tryz.underlying151
 a31:=Tryz.isAgg151
 z31:=Tryz.sizeOf151
 v31:=Tryz.zeroValue151
 t46:=Tryz.underlying113
 a46:=Tryz.isAgg113
 z46:=Tryz.sizeOf113
 v46:=Tryz.zeroValue113
 t51:=Tryz.underlying165
 a51:=Tryz.isAgg165
 z51:=Tryz.sizeOf165
 v51:=Tryz.zeroValue165
 t105:=Tryz.underlying228
 a105:=Tryz.isAgg228
 z105:=Tryz.sizeOf228
 v105:=Tryz.zeroValue228
 t119:=Tryz.underlying252
 a119:=Tryz.isAgg252
 z119:=Tryz.sizeOf252
 t138:=Tryz.underlying254
 a138:=Tryz.isAgg254
 z138:=Tryz.sizeOf254
 v138:=Tryz.zeroValue254
 t139:=Tryz.underlying255
 a139:=Tryz.isAgg255
 z139:=Tryz.sizeOf255
 v139:=Tryz.zeroValue255
 t146:=Tryz.underlying256
 a146:=Tryz.isAgg256
 z146:=Tryz.sizeOf256
 v146:=Tryz.zeroValue256
 g1:=by kernel_rfl
 g3:=by kernel_rfl
 g4:=by kernel_rfl }
def Tryz.lays155_ren:Go.Shelf.Ren:=⟨fun|155=>249|154=>266|138=>235|165=>283|143=>236|166=>284|197=>251|169=>285|195=>250|218=>252|240=>297|241=>298|219=>253|260=>267|276=>302|277=>303|217=>268|225=>269|224=>270|267=>271|266=>286|314=>287|n=>n,fun|9=>9|3=>3|4=>4|72=>246|0=>0|76=>249|105=>228|21=>21|5=>5|70=>244|20=>20|37=>22|75=>248|127=>259|164=>262|46=>113|119=>252|139=>255|138=>254|146=>256|51=>165|80=>251|n=>n,fun|1=>0|3=>2|4=>3|n=>n⟩
theorem Tryz.lays155:Go.Proofs.Lays.n155 Tryz.prog Tryz.lays155_ren:={
 mixed:=by kernel_rfl
 f138:=Tryz.func235.trans (congrArg some ac)
 f143:=Tryz.func236.trans (congrArg some ac)
 f154:=Tryz.func266.trans (congrArg some ac)
 f155:=Tryz.func249.trans (congrArg some ac)
 f165:=Tryz.func283.trans (congrArg some ac)
 f166:=Tryz.func284.trans (congrArg some ac)
 f169:=Tryz.func285.trans (congrArg some ac)
 f195:=Tryz.func250.trans (congrArg some ac)
 f197:=Tryz.func251.trans (congrArg some ac)
 f217:=Tryz.func268.trans (congrArg some ac)
 f218:=Tryz.func252.trans (congrArg some ac)
 f219:=Tryz.func253.trans (congrArg some ac)
 f224:=Tryz.func270.trans (congrArg some ac)
 f225:=Tryz.func269.trans (congrArg some ac)
 f240:=Tryz.func297.trans (congrArg some ac)
 f241:=Tryz.func298.trans (congrArg some ac)
 f260:=Tryz.func267.trans (congrArg some ac)
 f266:=Tryz.func286.trans (congrArg some ac)
 f267:=Tryz.func271.trans (congrArg some ac)
 f276:=Tryz.func302.trans (congrArg some ac)
 f277:=Tryz.func303.trans (congrArg some ac)
 f314:=Tryz.func287.trans (congrArg some ac)
 t0:=Tryz.underlying0
 a0:=Tryz.isAgg0
 z0:=Tryz.sizeOf0
 v0:=Tryz.zeroValue0
 t3:=Tryz.underlying3
 a3:=Tryz.isAgg3
 z3:=Tryz.sizeOf3
 v3:=Tryz.zeroValue3
 t4:=Tryz.underlying4
 a4:=Tryz.isAgg4
 z4:=Tryz.sizeOf4
 v4:=Tryz.zeroValue4
 t5:=Tryz.underlying5
 a5:=Tryz.isAgg5
 z5:=Tryz.sizeOf5
 v5:=Tryz.zeroValue5
 t9:=Tryz.underlying9
 a9:=Tryz.isAgg9
 z9:=Tryz.sizeOf9
 v9:=Tryz.zeroValue9
 t20:=Tryz.underlying20
 a20:=Tryz.isAgg20
 z20:=Tryz.sizeOf20
 v20:=Tryz.zeroValue20
 t21:=Tryz.underlying21
 a21:=Tryz.isAgg21
 z21:=Tryz.sizeOf21
 v21:=Tryz.zeroValue21
 t37:=Tryz.underlying22
 a37:=Tryz.isAgg22
 z37:=Tryz.sizeOf22
 v37:=Tryz.zeroValue22
 t46:=Tryz.underlying113
 a46:=Tryz.isAgg113
 z46:=Tryz.sizeOf113
 v46:=Tryz.zeroValue113
 t51:=Tryz.underlying165
 a51:=Tryz.isAgg165
 z51:=Tryz.sizeOf165
 v51:=Tryz.zeroValue165
 t70:=Tryz.underlying244
 a70:=Tryz.isAgg244
 z70:=Tryz.sizeOf244
 v70:=Tryz.zeroValue244
 t72:=Tryz.underlying246
 a72:=Tryz.isAgg246
 z72:=Tryz.sizeOf246
 v72:=Tryz.zeroValue246
 t75:=Tryz.underlying248
 a75:=Tryz.isAgg248
 z75:=Tryz.sizeOf248
 v75:=Tryz.zeroValue248
 t76:=Tryz.underlying249
 a76:=Tryz.isAgg249
 z76:=Tryz.sizeOf249
 v76:=Tryz.zeroValue249
 t105:=Tryz.underlying228
 a105:=Tryz.isAgg228
 z105:=Tryz.sizeOf228
 v105:=Tryz.zeroValue228
 t119:=Tryz.underlying252
 a119:=Tryz.isAgg252
 z119:=Tryz.sizeOf252
 t127:=Tryz.underlying259
 a127:=Tryz.isAgg259
 z127:=Tryz.sizeOf259
 v127:=Tryz.zeroValue259
 t138:=Tryz.underlying254
 a138:=Tryz.isAgg254
 z138:=Tryz.sizeOf254
 v138:=Tryz.zeroValue254
 t139:=Tryz.underlying255
 a139:=Tryz.isAgg255
 z139:=Tryz.sizeOf255
 v139:=Tryz.zeroValue255
 t146:=Tryz.underlying256
 a146:=Tryz.isAgg256
 z146:=Tryz.sizeOf256
 v146:=Tryz.zeroValue256
 t164:=Tryz.underlying262
 a164:=Tryz.isAgg262
 z164:=Tryz.sizeOf262
 v164:=Tryz.zeroValue262
 g1:=by kernel_rfl
 g3:=by kernel_rfl
 g4:=by kernel_rfl }
theorem Tryz.Builder_Extra_155:Builder.Extra Tryz.prog Tryz.lays155_ren:={
 sizeBuilder:=by kernel_rfl
 liesBuilder:=by kernel_rfl
 t5:=Tryz.underlying5
 a5:=Tryz.isAgg5
 z5:=Tryz.sizeOf5
 v5:=Tryz.zeroValue5
 infoByte:=by kernel_rfl
 cellsByte:=by kernel_rfl
 sizeByte:=by kernel_rfl
 neB5:=by decide }
def Tryz.laysM171_ren:Go.Shelf.Ren:=⟨fun|171=>204|243=>232|246=>248|283=>262|284=>263|285=>264|286=>265|129=>163|317=>279|318=>280|319=>281|320=>282|337=>295|338=>296|n=>n,fun|3=>3|9=>9|2=>2|4=>4|171=>233|0=>0|53=>167|37=>22|5=>5|173=>235|212=>242|51=>165|20=>20|213=>243|46=>113|232=>260|233=>261|n=>n,fun|17=>1|18=>4|19=>5|n=>n⟩
theorem Tryz.laysM171:Go.Proofs.LaysM.n171 Tryz.prog Tryz.laysM171_ren:={
 mixed:=by kernel_rfl
 f129:=Tryz.func163.trans (congrArg some ac)
 f171:=Tryz.func204.trans (congrArg some ac)
 f243:=Tryz.func232.trans (congrArg some ac)
 f246:=Tryz.func248.trans (congrArg some ac)
 f283:=Tryz.func262.trans (congrArg some ac)
 f284:=Tryz.func263.trans (congrArg some ac)
 f285:=Tryz.func264.trans (congrArg some ac)
 f286:=Tryz.func265.trans (congrArg some ac)
 f317:=Tryz.func279.trans (congrArg some ac)
 f318:=Tryz.func280.trans (congrArg some ac)
 f319:=Tryz.func281.trans (congrArg some ac)
 f320:=Tryz.func282.trans (congrArg some ac)
 f337:=Tryz.func295.trans (congrArg some ac)
 f338:=Tryz.func296.trans (congrArg some ac)
 t0:=Tryz.underlying0
 a0:=Tryz.isAgg0
 z0:=Tryz.sizeOf0
 v0:=Tryz.zeroValue0
 t2:=Tryz.underlying2
 a2:=Tryz.isAgg2
 z2:=Tryz.sizeOf2
 v2:=Tryz.zeroValue2
 t3:=Tryz.underlying3
 a3:=Tryz.isAgg3
 z3:=Tryz.sizeOf3
 v3:=Tryz.zeroValue3
 t4:=Tryz.underlying4
 a4:=Tryz.isAgg4
 z4:=Tryz.sizeOf4
 v4:=Tryz.zeroValue4
 t5:=Tryz.underlying5
 a5:=Tryz.isAgg5
 z5:=Tryz.sizeOf5
 v5:=Tryz.zeroValue5
 t9:=Tryz.underlying9
 a9:=Tryz.isAgg9
 z9:=Tryz.sizeOf9
 v9:=Tryz.zeroValue9
 t20:=Tryz.underlying20
 a20:=Tryz.isAgg20
 z20:=Tryz.sizeOf20
 v20:=Tryz.zeroValue20
 t37:=Tryz.underlying22
 a37:=Tryz.isAgg22
 z37:=Tryz.sizeOf22
 v37:=Tryz.zeroValue22
 t46:=Tryz.underlying113
 a46:=Tryz.isAgg113
 z46:=Tryz.sizeOf113
 v46:=Tryz.zeroValue113
 t51:=Tryz.underlying165
 a51:=Tryz.isAgg165
 z51:=Tryz.sizeOf165
 v51:=Tryz.zeroValue165
 t53:=Tryz.underlying167
 a53:=Tryz.isAgg167
 z53:=Tryz.sizeOf167
 v53:=Tryz.zeroValue167
 t171:=Tryz.underlying233
 a171:=Tryz.isAgg233
 z171:=Tryz.sizeOf233
 v171:=Tryz.zeroValue233
 t173:=Tryz.underlying235
 a173:=Tryz.isAgg235
 z173:=Tryz.sizeOf235
 v173:=Tryz.zeroValue235
 t212:=Tryz.underlying242
 a212:=Tryz.isAgg242
 z212:=Tryz.sizeOf242
 v212:=Tryz.zeroValue242
 t213:=Tryz.underlying243
 a213:=Tryz.isAgg243
 z213:=Tryz.sizeOf243
 t232:=Tryz.underlying260
 a232:=Tryz.isAgg260
 z232:=Tryz.sizeOf260
 v232:=Tryz.zeroValue260
 t233:=Tryz.underlying261
 a233:=Tryz.isAgg261
 z233:=Tryz.sizeOf261
 v233:=Tryz.zeroValue261
 g17:=by kernel_rfl
 g18:=by kernel_rfl
 g19:=by kernel_rfl
 i0:=by kernel_rfl
 i2:=by kernel_rfl
 i3:=by kernel_rfl
 i4:=by kernel_rfl
 i5:=by kernel_rfl
 i9:=by kernel_rfl
 i20:=by kernel_rfl
 i37:=by kernel_rfl
 i46:=by kernel_rfl
 i51:=by kernel_rfl
 i53:=by kernel_rfl
 i171:=by kernel_rfl
 i173:=by kernel_rfl
 i212:=by kernel_rfl
 i232:=by kernel_rfl
 i233:=by kernel_rfl
 m17:=by kernel_rfl
 m18:=by kernel_rfl
 m19:=by kernel_rfl }
def Tryz.laysC172_ren:Go.Shelf.Ren:=⟨fun|172=>301|244=>311|245=>312|247=>317|279=>318|280=>319|281=>320|282=>321|287=>322|316=>323|171=>204|205=>324|321=>325|322=>326|243=>232|246=>248|283=>262|284=>263|285=>264|286=>265|129=>163|317=>279|318=>280|319=>281|320=>282|337=>295|338=>296|n=>n,fun|9=>9|3=>3|75=>248|76=>249|4=>4|5=>5|167=>269|37=>22|0=>0|85=>270|2=>2|168=>272|53=>167|175=>275|46=>113|210=>278|127=>259|145=>283|143=>281|21=>21|171=>233|173=>235|212=>242|51=>165|20=>20|213=>243|232=>260|233=>261|80=>251|n=>n,fun|15=>6|16=>7|17=>1|18=>4|19=>5|n=>n⟩
theorem Tryz.laysC172:Go.Proofs.LaysC.n172 Tryz.prog Tryz.laysC172_ren:={
 mixed:=by kernel_rfl
 f129:=Tryz.func163.trans (congrArg some ac)
 f171:=Tryz.func204.trans (congrArg some ac)
 f172:=Tryz.func301.trans (congrArg some ac)
 f205:=Tryz.func324.trans (congrArg some ac)
 f243:=Tryz.func232.trans (congrArg some ac)
 f244:=Tryz.func311.trans (congrArg some ac)
 f245:=Tryz.func312.trans (congrArg some ac)
 f246:=Tryz.func248.trans (congrArg some ac)
 f247:=Tryz.func317.trans (congrArg some ac)
 f279:=Tryz.func318.trans (congrArg some ac)
 f280:=Tryz.func319.trans (congrArg some ac)
 f281:=Tryz.func320.trans (congrArg some ac)
 f282:=Tryz.func321.trans (congrArg some ac)
 f283:=Tryz.func262.trans (congrArg some ac)
 f284:=Tryz.func263.trans (congrArg some ac)
 f285:=Tryz.func264.trans (congrArg some ac)
 f286:=Tryz.func265.trans (congrArg some ac)
 f287:=Tryz.func322.trans (congrArg some ac)
 f316:=Tryz.func323.trans (congrArg some ac)
 f317:=Tryz.func279.trans (congrArg some ac)
 f318:=Tryz.func280.trans (congrArg some ac)
 f319:=Tryz.func281.trans (congrArg some ac)
 f320:=Tryz.func282.trans (congrArg some ac)
 f321:=Tryz.func325.trans (congrArg some ac)
 f322:=Tryz.func326.trans (congrArg some ac)
 f337:=Tryz.func295.trans (congrArg some ac)
 f338:=Tryz.func296.trans (congrArg some ac)
 t0:=Tryz.underlying0
 a0:=Tryz.isAgg0
 z0:=Tryz.sizeOf0
 v0:=Tryz.zeroValue0
 t2:=Tryz.underlying2
 a2:=Tryz.isAgg2
 z2:=Tryz.sizeOf2
 v2:=Tryz.zeroValue2
 t3:=Tryz.underlying3
 a3:=Tryz.isAgg3
 z3:=Tryz.sizeOf3
 v3:=Tryz.zeroValue3
 t4:=Tryz.underlying4
 a4:=Tryz.isAgg4
 z4:=Tryz.sizeOf4
 v4:=Tryz.zeroValue4
 t5:=Tryz.underlying5
 a5:=Tryz.isAgg5
 z5:=Tryz.sizeOf5
 v5:=Tryz.zeroValue5
 t9:=Tryz.underlying9
 a9:=Tryz.isAgg9
 z9:=Tryz.sizeOf9
 v9:=Tryz.zeroValue9
 t20:=Tryz.underlying20
 a20:=Tryz.isAgg20
 z20:=Tryz.sizeOf20
 v20:=Tryz.zeroValue20
 t21:=Tryz.underlying21
 a21:=Tryz.isAgg21
 z21:=Tryz.sizeOf21
 v21:=Tryz.zeroValue21
 t37:=Tryz.underlying22
 a37:=Tryz.isAgg22
 z37:=Tryz.sizeOf22
 v37:=Tryz.zeroValue22
 t46:=Tryz.underlying113
 a46:=Tryz.isAgg113
 z46:=Tryz.sizeOf113
 v46:=Tryz.zeroValue113
 t51:=Tryz.underlying165
 a51:=Tryz.isAgg165
 z51:=Tryz.sizeOf165
 v51:=Tryz.zeroValue165
 t53:=Tryz.underlying167
 a53:=Tryz.isAgg167
 z53:=Tryz.sizeOf167
 v53:=Tryz.zeroValue167
 t75:=Tryz.underlying248
 a75:=Tryz.isAgg248
 z75:=Tryz.sizeOf248
 v75:=Tryz.zeroValue248
 t76:=Tryz.underlying249
 a76:=Tryz.isAgg249
 z76:=Tryz.sizeOf249
 v76:=Tryz.zeroValue249
 t85:=Tryz.underlying270
 a85:=Tryz.isAgg270
 z85:=Tryz.sizeOf270
 v85:=Tryz.zeroValue270
 t127:=Tryz.underlying259
 a127:=Tryz.isAgg259
 z127:=Tryz.sizeOf259
 v127:=Tryz.zeroValue259
 t143:=Tryz.underlying281
 a143:=Tryz.isAgg281
 z143:=Tryz.sizeOf281
 v143:=Tryz.zeroValue281
 t145:=Tryz.underlying283
 a145:=Tryz.isAgg283
 z145:=Tryz.sizeOf283
 v145:=Tryz.zeroValue283
 t167:=Tryz.underlying269
 a167:=Tryz.isAgg269
 z167:=Tryz.sizeOf269
 v167:=Tryz.zeroValue269
 t168:=Tryz.underlying272
 a168:=Tryz.isAgg272
 z168:=Tryz.sizeOf272
 v168:=Tryz.zeroValue272
 t171:=Tryz.underlying233
 a171:=Tryz.isAgg233
 z171:=Tryz.sizeOf233
 v171:=Tryz.zeroValue233
 t173:=Tryz.underlying235
 a173:=Tryz.isAgg235
 z173:=Tryz.sizeOf235
 v173:=Tryz.zeroValue235
 t175:=Tryz.underlying275
 a175:=Tryz.isAgg275
 z175:=Tryz.sizeOf275
 v175:=Tryz.zeroValue275
 t210:=Tryz.underlying278
 a210:=Tryz.isAgg278
 z210:=Tryz.sizeOf278
 v210:=Tryz.zeroValue278
 t212:=Tryz.underlying242
 a212:=Tryz.isAgg242
 z212:=Tryz.sizeOf242
 v212:=Tryz.zeroValue242
 t213:=Tryz.underlying243
 a213:=Tryz.isAgg243
 z213:=Tryz.sizeOf243
 t232:=Tryz.underlying260
 a232:=Tryz.isAgg260
 z232:=Tryz.sizeOf260
 v232:=Tryz.zeroValue260
 t233:=Tryz.underlying261
 a233:=Tryz.isAgg261
 z233:=Tryz.sizeOf261
 v233:=Tryz.zeroValue261
 g15:=by kernel_rfl
 g16:=by kernel_rfl
 g17:=by kernel_rfl
 g18:=by kernel_rfl
 g19:=by kernel_rfl
 t80:=Tryz.underlying251
 a80:=Tryz.isAgg251
 z80:=Tryz.sizeOf251
 v80:=Tryz.zeroValue251
 i0:=by kernel_rfl
 i2:=by kernel_rfl
 i3:=by kernel_rfl
 i4:=by kernel_rfl
 i5:=by kernel_rfl
 i9:=by kernel_rfl
 i20:=by kernel_rfl
 i21:=by kernel_rfl
 i37:=by kernel_rfl
 i46:=by kernel_rfl
 i51:=by kernel_rfl
 i53:=by kernel_rfl
 i75:=by kernel_rfl
 i76:=by kernel_rfl
 i80:=by kernel_rfl
 i85:=by kernel_rfl
 i127:=by kernel_rfl
 i143:=by kernel_rfl
 i145:=by kernel_rfl
 i167:=by kernel_rfl
 i168:=by kernel_rfl
 i171:=by kernel_rfl
 i173:=by kernel_rfl
 i175:=by kernel_rfl
 i210:=by kernel_rfl
 i212:=by kernel_rfl
 i232:=by kernel_rfl
 i233:=by kernel_rfl
 m15:=by kernel_rfl
 m16:=by kernel_rfl
 m17:=by kernel_rfl
 m18:=by kernel_rfl
 m19:=by kernel_rfl
 c0:=by kernel_rfl
 c2:=by kernel_rfl
 c3:=by kernel_rfl
 c4:=by kernel_rfl
 c5:=by kernel_rfl
 c9:=by kernel_rfl
 c20:=by kernel_rfl
 c21:=by kernel_rfl
 c37:=by kernel_rfl
 c46:=by kernel_rfl
 c51:=by kernel_rfl
 c53:=by kernel_rfl
 c75:=by kernel_rfl
 c76:=by kernel_rfl
 c80:=by kernel_rfl
 c85:=by kernel_rfl
 c127:=by kernel_rfl
 c143:=by kernel_rfl
 c145:=by kernel_rfl
 c167:=by kernel_rfl
 c168:=by kernel_rfl
 c171:=by kernel_rfl
 c173:=by kernel_rfl
 c175:=by kernel_rfl
 c210:=by kernel_rfl
 c212:=by kernel_rfl
 c213:=by kernel_rfl
 c232:=by kernel_rfl
 c233:=by kernel_rfl }
end Go.Proofs.YtoegnikpokgbfaaGreatDoor
set_option maxRecDepth 8000
namespace Go.Proofs.YtoegnikpokgbfaaGreatDoor
open Go Go.Dv
open Go.Vc (D cF cG cv aX)
open Go.RowKit (Below)
theorem DN {w:World} {own:Nat->Prop} (h:GlW w own):∃ty lh,w.heap[1]?=some (.cells (Lib.pow10Tab.map fun z=>Value.int .u64 z).toArray ty lh):=by
 obtain⟨_,cs,ty,lh,h2,h3⟩:=h _ (List.mem_cons_self)
 exact⟨ty,lh,by rw[<-h3];exact h2⟩
theorem uO {w:World} {own:Nat->Prop} (h:GlW w own):∃m,w.cell? ⟨0,0,none⟩=some (.int .i64 m):=by
 obtain⟨_,cs,ty,lh,h2,m,h3⟩:=h _ (List.mem_cons_of_mem _ (List.mem_cons_self))
 exact⟨m,by simp only[World.cell?,h2];exact h3⟩
theorem uP (w:World) (k:Nat) (os:Array Obj):Below w.heap.size w (Go.Sort.grow (w.drewN k) os):=
 ⟨rfl,rfl,rfl,by simp [Go.Sort.grow,World.drewN],fun i hi=>by simp [Go.Sort.grow,World.drewN,Array.getElem?_append,hi]⟩
def dX (n:Int):ByteArray:=⟨(Lib.itoa n).toArray⟩
theorem l5 (u:Nat):∀k,u<10 ^ (k+1)->(Lib.decDigits u).length<=k+1:=by
 intro k
 induction k generalizing u with
 |zero=>intro h;rw[Lib.decDigits,dif_pos (by simpa using h)];simp
 |succ k ih=>
  intro h
  rw[Lib.decDigits]
  split
  ·simp
  ·have:=ih (u / 10) (by rw[Nat.pow_succ] at h;omega)
   simp only[aA,List.length_singleton];omega
theorem sP {n:Int} (h0 : -9223372036854775808<=n) (h1:n<=9223372036854775807):(Lib.itoa n).length<=20:=by
 unfold Lib.itoa
 split
 ·have:=l5 n.natAbs 18 aa
  simp only[List.length_cons];omega
 ·have:=l5 n.toNat 18 aa
  omega
theorem uQ {n:Int} (h0 : -9223372036854775808<=n) (h1:n<=9223372036854775807):(dX n).size<=20:=by
 show (List.toArray _).size<=20
 simpa using sP h0 h1
theorem DO (n:Int) (h0 : -9223372036854775808<=n) (h1:n<=9223372036854775807):Cl Tryz.prog 204 [vi n] [] fun r _=>r=vs (dX n):=
 Cl.ofVals ac [.int .i64 n] fun w hg=>by
  obtain⟨ty,lh,hp⟩:=DN hg
  refine (Any.strconv_Itoa Tryz.laysM171 n h0 h1 w ?_).mono ?_
  ·unfold Lib.TabIs World.var?
   rw[show Tryz.prog.globalNamed _=some 1 by kernel_rfl]
   simp only[Option.bind_some,hp]
  ·rintro e w' ⟨rfl,k,os,rfl⟩
   have:=uQ h0 h1
   exact⟨_,rfl,by show ByteArray.size _<=maxLen;simp only[maxLen];exact Nat.le_trans this ae,rfl,uP w k os⟩
end Go.Proofs.YtoegnikpokgbfaaGreatDoor
set_option maxRecDepth 8000
namespace Go.Proofs.YtoegnikpokgbfaaGreatDoor
open Go Go.Dv
open Go.Vc (D cF cG cv aX)
open Go.RowKit (Below)
open Go.Vc (CellF RowF ValsF d6)
def mD:ByteArray:=⟨#[83,69,76,69,67,84,32,68,73,83,84,73,78,67,84,32,70,82,79,77,32,74,79,73,78,32,79,78,32,87,72,69,82,69,32,79,82,68,69,82,32,66,89,32,65,83,67,32,68,69,83,67,32,76,73,77,73,84,32,65,83,32,65,78,68,32,79,82,32,78,79,84,32,73,83,32,73,78,32,66,69,84,87,69,69,78,32,69,88,73,83,84,83,32,78,85,76,76,32,84,82,85,69,32,70,65,76,83,69,32,73,78,83,69,82,84,32,73,78,84,79,32,86,65,76,85,69,83,32,85,80,68,65,84,69,32,83,69,84,32,68,69,76,69,84,69]⟩
theorem y5:Lib.splitB ⟨#[32]⟩ 0 (Lib.countB mD ⟨#[32]⟩) mD=kws:=by decide +kernel
theorem y6:Lib.countB mD ⟨#[32]⟩=27:=by decide +kernel
theorem qF (w:World):∀l:List ByteArray,(∀s∈l,s.size<=maxLen)->ValsF w (l.flatMap srow) (l.map Value.string) []
 | [],_=>rfl
 |s::r,h=>⟨[],[],⟨rfl,rfl,h s (by simp)⟩,qF w r fun x hx=>h x (by simp [hx]),rfl⟩
theorem qG (w w':World) (ty:TypeId) (l:List ByteArray) (hl:l≠[]) (hs:∀s∈l,s.size<=maxLen) (hn:l.length<=maxLen) (β:Nat->Option Nat) (hw:w'.heap[w.heap.size]?=some (.cells (l.map Value.string).toArray ty (0,0))) :
 RelS Tryz.prog w' β (fun b=>w.heap.size<=b) (.c (.sl l.length (l.flatMap srow) none)) (.slice (some ⟨w.heap.size,0,none⟩) l.length l.length):=by
 have hrow:RowF w' w.heap.size 0 (l.flatMap srow) []:=(qF w' l hs).row fun j v hj=>by
  rw[cell_of_row w' w.heap.size (0+j) _ _ _ hw];simpa using hj
 refine⟨[w.heap.size],⟨some ⟨w.heap.size,0,none⟩,l.length,rfl,Nat.le_refl _,hn,(fun e=>by cases e),.inr ⟨?_,w.heap.size,0,[],rfl,hrow,rfl⟩⟩,(fun b hb=>by simp at hb;omega),(fun _ e=>by cases e)⟩
 cases l with
 |nil=>exact absurd rfl hl
 |cons s r=>simp [srow]
theorem BI:Cl Tryz.prog 145 [vs mD,vs ⟨#[32]⟩] [] fun r _=>r = .c (.sl 28 (kws.flatMap srow) none):=
 Cl.ofNew ac [.string mD,.string ⟨#[32]⟩] fun w hg=>by
  obtain⟨m,hm⟩:=uO hg
  refine (Any.strings_Split Tryz.lays146 ac mD ⟨#[32]⟩ m w ae hm ae).mono ?_
  rintro e w' ⟨rfl,rfl⟩
  rw[y5,y6]
  refine⟨_,_,rfl,rfl,by rfl,fun β=>qG w _ _ kws ae (fun s hs=>Nat.le_trans (y4 s hs) ae) ae β (Go.heap_alloc_new w _),⟨rfl,rfl,rfl,by simp,fun i hi=>Go.heap_alloc_old w _ hi⟩⟩
theorem uR:Cl Tryz.prog 314 [] [] fun r _=>r = .c (.sl 28 (kws.flatMap srow) none):=by
 refine am ah false Tryz.func314 rfl ac ?_
 simp only[tt,seval,Tryz.f314]
 refine cy BI ?_ ?_ ?_
 ·decide
 ·simp only[tt,seval]
  rfl
 rintro r rfl
 simp only[tt,seval]
 exact⟨_,_,rfl,ao rfl⟩
theorem zq (s:ByteArray) (hs:s.size<=1048576):Cl Tryz.prog 308 [vs s] [] fun r _=>r=vi (key s):=by
 refine am ah false Tryz.func308 rfl ac ?_
 simp only[Tryz.f308,tt,seval]
 refine cZ (uR) ?_ ?_<;>simp only[tt,seval]
 refine cZ (wD s hs) ?_ ?_<;>simp only[tt,seval]
 refine cZ (wE kws (oG s)) ?_ ?_<;>simp only[tt,seval,wF]
 have h1 : -1<=oH (oG s) kws/\oH (oG s) kws<=28:=by
  unfold oH
  have:=wF
  split<;>omega
 rw[aI (n:=oH (oG s) kws+1) aa aa]
 exact⟨_,_,rfl,ao rfl⟩
end Go.Proofs.YtoegnikpokgbfaaGreatDoor
set_option maxRecDepth 8000
namespace Go.Proofs.YtoegnikpokgbfaaGreatDoor
open Go Go.Dv
open Go.Vc (D cF cG cv aX)
def Ga (b:Int):Bool:=Hq b||decide (48<=b/\b<=57)
def uS (s:ByteArray):Bool:=decide (1<=s.size/\s.size<=20)&&(!decide (48<=((s.data.toList.headD 0).toNat:Int)/\((s.data.toList.headD 0).toNat:Int)<=57)&&(decide (key s=0)&&s.data.toList.all fun b=>Ga b.toNat))
theorem DP (s:ByteArray):0<=key s:=by unfold key oH;split<;>omega
def eQ (c:UInt8) (l:List UInt8):List UInt8:=l.flatMap fun b=>if b=c then [c,c] else [b]
def lq (c:UInt8) (s:ByteArray):ByteArray:=⟨(c::(eQ c s.data.toList++[c])).toArray⟩
theorem lr (c:UInt8) (l:List UInt8):(eQ c l).length<=2*l.length:=by
 induction l with
 |nil=>simp [eQ]
 |cons b r ih=>
  unfold eQ at *
  rw[List.flatMap_cons,aA,List.length_cons]
  split<;>simp only[List.length_cons,List.length_nil]<;>omega
end Go.Proofs.YtoegnikpokgbfaaGreatDoor
set_option maxRecDepth 8000
namespace Go.Proofs.YtoegnikpokgbfaaGreatDoor
open Go Go.Dv
open Go.Vc (D cF cG cv aX)
open Go.RowKit (Below)
open Go.Vc (d6)
theorem jD (c:UInt8):∀l:List UInt8,c ∉ l->Lib.index l [c] = -1
 | [],_=>rfl
 |b::l,h=>by
  simp only[List.mem_cons,not_or] at h
  have ih:=jD c l h.2
  have hb:([c]:List UInt8).isPrefixOf (b::l)=false:=by simp [List.isPrefixOf,h.1]
  simp [Lib.index,hb,ih]
theorem qH (c:UInt8):∀a r:List UInt8,c ∉ a->Lib.index (a++c::r) [c]=a.length
 | [],r,_=>by simp [Lib.index,List.isPrefixOf]
 |b::a,r,h=>by
  simp only[List.mem_cons,not_or] at h
  have ih:=qH c a r h.2
  have hb:([c]:List UInt8).isPrefixOf (b::(a++c::r))=false:=by simp [List.isPrefixOf,h.1]
  have hne:¬((a.length:Int) = -1):=by omega
  simp [Lib.index,hb,ih,hne]
theorem jE {c:UInt8}:∀ {l:List UInt8},c ∉ l->eQ c l=l
 | [],_=>rfl
 |b::l,h=>by
  simp only[List.mem_cons,not_or] at h
  have ih:=jE h.2
  unfold eQ at *
  rw[List.flatMap_cons,ih,if_neg (fun e=>h.1 e.symm)];rfl
theorem rt (c:UInt8):∀(n:Nat) (l:List UInt8),l.length<=n->Lib.replaceK [c] [c,c] (Lib.count l [c]) l=eQ c l:=by
 intro n
 induction n with
 |zero=>
  intro l h
  have:l=[]:=List.eq_nil_of_length_eq_zero aa
  subst this
  rw[Lib.count_miss (jD c [] (by simp))];rfl
 |succ n ih=>
  intro l h
  by_cases hc:c∈l
  ·obtain⟨a,r,rfl,ha⟩:=List.eq_append_cons_of_mem hc
   have hi:=qH c a r ha
   have hdrop:(a++c::r).drop (a.length+[c].length)=r:=by
    rw[show a++c::r=(a++[c])++r by simp,List.drop_left' (by simp)]
   rw[Lib.count_hit (by simp) hi,Nat.add_comm,Lib.replaceK_hit _ _ _ _ _ hi,hdrop,ih r (by simp at h;omega),List.take_left' rfl]
   unfold eQ
   rw[List.flatMap_append,List.flatMap_cons,if_pos rfl]
   have:=jE ha
   unfold eQ at this
   rw[this];simp
  ·rw[Lib.count_miss (jD c l hc),jE hc];rfl
theorem oI (c:UInt8) (l:List UInt8):Lib.replaceAll l [c] [c,c]=eQ c l:=by
 have hne:([c]==[c,c])=false:=by simp
 unfold Lib.replaceAll Lib.replace Lib.replaceNum
 rw[hne,if_neg (by simp),if_pos (by simp)]
 exact rt c l.length l (Nat.le_refl _)
theorem data_append (a b:ByteArray):(a++b).data.toList=a.data.toList++b.data.toList:=by rw[ByteArray.data_append,Array.toList_append]
def one (c:UInt8):ByteArray:=⟨#[c]⟩
theorem sQ (c:UInt8):(one c++one c).data.toList=[c,c]:=by rw[data_append];rfl
theorem ru (s:ByteArray) (c:UInt8) (hs:s.size<=1048576):Cl Tryz.prog 249 [vs s,vs (one c),vs (one c++one c)] [] fun r _=>r=vs ⟨(eQ c s.data.toList).toArray⟩:=
 Cl.ofVals ac [.string s,.string (one c),.string (one c++one c)] fun w hg=>by
  obtain⟨m,hm⟩:=uO hg
  have h2:(one c++one c).size=2:=by rw[<-cQ,sQ];rfl
  have hcnt:Lib.countB s (one c)<=s.size:=Lib.countB_le (one c) (Nat.le_refl 1) s.size s (Nat.le_refl _)
  refine (Any.strings_ReplaceAll Tryz.lays155 Tryz.Builder_Extra_155 s (one c) (one c++one c) m w aa hm (Nat.le_refl 1) (by rw[h2];omega)).mono ?_
  rintro e w' ⟨rfl,hb⟩
  rw[sQ,show (one c).data.toList=[c] from rfl,oI]
  refine⟨_,rfl,?_,rfl,hb⟩
  show (List.toArray _).size<=maxLen
  have:=lr c s.data.toList
  rw[cQ] at this
  simp only[List.size_toArray,maxLen];omega
theorem zr {a b:ByteArray} (h:a.data.toList=b.data.toList):a=b:=by
 obtain⟨⟨x⟩⟩:=a;obtain⟨⟨y⟩⟩:=b
 simp only at h;rw[h]
theorem zt (a b:ByteArray):(a++b).size=a.size+b.size:=by rw[<-cQ,data_append,aA,cQ,cQ]
theorem zu (s:ByteArray) (c:UInt8) (hs:s.size<=1048576):Cl Tryz.prog 233 [vs s,vs (one c)] [] fun r _=>r=vs (lq c s):=by
 have h1:(one c).size=1:=rfl
 refine am ah false Tryz.func233 rfl ac ?_
 simp only[Tryz.f233,tt,seval]
 rw[kU aa]
 refine cZ (ru s c hs) ?_ ?_<;>simp only[tt,seval]
 have hq:(⟨(eQ c s.data.toList).toArray⟩:ByteArray).size<=2*s.size:=by
  have:=lr c s.data.toList
  rw[cQ] at this
  show (List.toArray _).size<=_
  simpa using this
 rw[kU aa]
 simp only[tt,seval]
 rw[kU (by rw[zt];omega)]
 simp only[tt,seval]
 exact⟨_,_,zo (zr (by rw[data_append,data_append];simp [one,lq])),ao rfl⟩
theorem t39:(((39:UInt8).toNat:Nat):Int)=39:=rfl
def De (s:ByteArray):ByteArray:=if 1<=s.size/\s.size<=20 then (if uS s=true then s else lq 34 s) else ⟨#[]⟩
theorem rv (s:ByteArray) (hs:s.size<=1048576):Cl Tryz.prog 206 [vs s] [] fun r _=>r=vs (lq 39 s):=by
 refine am ah false Tryz.func206 rfl ac ?_
 simp only[Tryz.f206,tt,seval]
 refine cZ (zu s 39 hs) ?_ ?_<;>simp only[tt,seval,one]
 exact⟨_,_,rfl,ao rfl⟩
end Go.Proofs.YtoegnikpokgbfaaGreatDoor
set_option maxRecDepth 8000
namespace Go.Proofs.YtoegnikpokgbfaaGreatDoor
open Go Go.Dv
open Go.Vc (D cF cG cv aX)
def d4 (v:Val):Bool:=
 if v.kind=0 then decide (v.num=0)&&decide (v.text=⟨#[]⟩) else if v.kind=1 then decide (v.text=⟨#[]⟩)
 else if v.kind=2 then decide (v.num=0)&&decide ((v.text.size:Int)<=200) else if v.kind=3 then decide (0<=v.num/\v.num<=1)&&decide (v.text=⟨#[]⟩) else false
theorem y7 (v:Val):Cl Tryz.prog 217 [.ag (ar v.row)] [] fun r _=>r=vb (d4 v):=by
 rw[Val.row]
 refine am ah false Tryz.func217 rfl ac ?_
 simp only[Tryz.f217,tt,seval]
 refine ab (fun h0=>?_) (fun h0=>?_)
 ·refine ab (fun h=>?_) (fun h=>?_)<;>simp only[tt,seval]
  ·exact⟨_,_,aY (by rw[d4,if_pos h0,h];rfl),ao rfl⟩
  ·exact⟨_,_,aY (by rw[d4,if_pos h0,h];rfl),ao rfl⟩
 ·try simp only[tt,seval]
  refine ab (fun h1=>?_) (fun h1=>?_)
  ·exact⟨_,_,aY (by rw[d4,if_neg h0,if_pos h1]),ao rfl⟩
  ·try simp only[tt,seval]
   refine ab (fun h2=>?_) (fun h2=>?_)
   ·refine ab (fun h=>?_) (fun h=>?_)<;>simp only[tt,seval]
    ·exact fun _=>⟨_,_,aY (by rw[d4,if_neg h0,if_neg h1,if_pos h2,h];rfl),ao rfl⟩
    ·exact⟨_,_,aY (by rw[d4,if_neg h0,if_neg h1,if_pos h2,h];rfl),ao rfl⟩
   ·try simp only[tt,seval]
    refine ab (fun h3=>?_) (fun h3=>?_)
    ·try simp only[tt,seval]
     refine cZ (dS v.num 0 1) ?_ ?_<;>simp only[tt,seval]
     cases hn:decide ((0:Int)<=v.num/\v.num<=1)<;>simp only[tt,seval]
     ·exact⟨_,_,aY (by rw[d4,if_neg h0,if_neg h1,if_neg h2,if_pos h3,hn];rfl),ao rfl⟩
     ·exact⟨_,_,aY (by rw[d4,if_neg h0,if_neg h1,if_neg h2,if_pos h3,hn];rfl),ao rfl⟩
    ·exact⟨_,_,aY (by rw[d4,if_neg h0,if_neg h1,if_neg h2,if_neg h3]),ao rfl⟩
theorem oJ (v:Val):Cl Tryz.prog 205 [.ag (ar v.row)] [] fun r _=>r=vb (d4 v):=by
 rw[Val.row]
 refine am ah false Tryz.func205 rfl ac ?_
 simp only[Tryz.f205,tt,seval]
 refine ab (fun h0=>?_) (fun h0=>?_)
 ·refine ab (fun h=>?_) (fun h=>?_)<;>simp only[tt,seval]
  ·exact⟨_,_,aY (by rw[d4,if_pos h0,h];rfl),ao rfl⟩
  ·exact⟨_,_,aY (by rw[d4,if_pos h0,h];rfl),ao rfl⟩
 ·try simp only[tt,seval]
  refine ab (fun h1=>?_) (fun h1=>?_)
  ·exact⟨_,_,aY (by rw[d4,if_neg h0,if_pos h1]),ao rfl⟩
  ·try simp only[tt,seval]
   refine ab (fun h2=>?_) (fun h2=>?_)
   ·refine ab (fun h=>?_) (fun h=>?_)<;>simp only[tt,seval]
    ·exact fun _=>⟨_,_,aY (by rw[d4,if_neg h0,if_neg h1,if_pos h2,h];rfl),ao rfl⟩
    ·exact⟨_,_,aY (by rw[d4,if_neg h0,if_neg h1,if_pos h2,h];rfl),ao rfl⟩
   ·try simp only[tt,seval]
    refine ab (fun h3=>?_) (fun h3=>?_)
    ·have fin:∀b:Bool,decide ((0:Int)<=v.num/\v.num<=1)=b->d4 v=(b&&decide (v.text=⟨#[]⟩)):=fun b hb=>by rw[d4,if_neg h0,if_neg h1,if_neg h2,if_pos h3,hb]
     by_cases hz:v.num=0
     ·simp only[tt,seval,aF hz]
      exact⟨_,_,aY (by rw[fin true (aF aa)];rfl),ao rfl⟩
     ·simp only[tt,seval,aG hz]
      by_cases ho:v.num=1
      ·simp only[tt,seval,aF ho]
       exact⟨_,_,aY (by rw[fin true (aF aa)];rfl),ao rfl⟩
      ·simp only[tt,seval,aG ho]
       exact⟨_,_,aY (by rw[fin false (aG aa)];rfl),ao rfl⟩
    ·exact⟨_,_,aY (by rw[d4,if_neg h0,if_neg h1,if_neg h2,if_neg h3]),ao rfl⟩
def oK (v:Val):ByteArray:=
 if d4 v=false then ⟨#[63]⟩ else if v.kind=1 then dX v.num else if v.kind=2 then lq 39 v.text else if v.kind=3 then (if v.num=1 then ⟨#[84,82,85,69]⟩ else ⟨#[70,65,76,83,69]⟩) else ⟨#[78,85,76,76]⟩
theorem kF (n:Int) (h0 : -9223372036854775808<=n) (h1:n<=9223372036854775807):Cl Tryz.prog 142 [vi n] [] fun r _=>r=vs (dX n):=by
 refine am ah false Tryz.func142 rfl ac ?_
 simp only[Tryz.f142,tt,seval]
 refine cZ (DO n h0 h1) ?_ ?_<;>simp only[tt,seval]
 exact⟨_,_,rfl,ao rfl⟩
theorem rx (v:Val) (h0 : -9223372036854775808<=v.num) (h1:v.num<=9223372036854775807) (hs:v.text.size<=1048576):Cl Tryz.prog 143 [.ag (ar v.row)] [] fun r _=>r=vs (oK v):=by
 rw[Val.row]
 refine am ah false Tryz.func143 rfl ac ?_
 simp only[Tryz.f143,tt,seval]
 refine cZ (oJ v) ?_ ?_<;>simp only[tt,seval,Val.row]
 refine ab (fun hk=>?_) (fun hk=>?_)
 ·exact⟨_,_,zo (by rw[oK,if_pos (by simpa only[Bool.not_eq_true'] using hk)]),ao rfl⟩
 ·have hk':¬d4 v=false:=by simpa only[Bool.not_eq_false',Bool.not_eq_false] using hk
  refine ab (fun k1=>?_) (fun k1=>?_)
  ·skip
   refine cZ (kF v.num h0 h1) ?_ ?_<;>simp only[tt,seval]
   exact⟨_,_,zo (by rw[oK,if_neg hk',if_pos k1]),ao rfl⟩
  ·try simp only[tt,seval]
   refine ab (fun k2=>?_) (fun k2=>?_)
   ·skip
    refine cZ (rv v.text hs) ?_ ?_<;>simp only[tt,seval]
    exact⟨_,_,zo (by rw[oK,if_neg hk',if_neg k1,if_pos k2]),ao rfl⟩
   ·try simp only[tt,seval]
    refine ab (fun k3=>?_) (fun k3=>?_)
    ·try simp only[tt,seval]
     refine ab (fun k4=>?_) (fun k4=>?_)
     ·exact⟨_,_,zo (by rw[oK,if_neg hk',if_neg k1,if_neg k2,if_pos k3,if_pos k4]),ao rfl⟩
     ·exact⟨_,_,zo (by rw[oK,if_neg hk',if_neg k1,if_neg k2,if_pos k3,if_neg k4]),ao rfl⟩
    ·exact⟨_,_,zo (by rw[oK,if_neg hk',if_neg k1,if_neg k2,if_neg k3]),ao rfl⟩
end Go.Proofs.YtoegnikpokgbfaaGreatDoor
set_option maxRecDepth 8000
namespace Go.Proofs.YtoegnikpokgbfaaGreatDoor
open Go Go.Dv
open Go.Vc (D cF cG cv aX)
open Go.Lib in
theorem oL:∀(l:List UInt8) (acc m:Nat),decFrom acc l=some m->acc<=m
 | [],acc,m,h=>by simp only[decFrom,Option.some.injEq] at h;omega
 |b::r,acc,m,h=>by
  simp only[decFrom] at h
  split at h
  ·have:=oL r _ m h;omega
  ·cases h
open Go.Lib in
theorem qI:∀(l:List UInt8) (acc m:Nat),decFrom acc l=some m->m<18446744073709551616->parseUint10 acc l = .ok m
 | [],acc,m,h,_=>by simp only[decFrom,Option.some.injEq] at h;subst h;rfl
 |b::r,acc,m,h,hm=>by
  simp only[decFrom,digitVal] at h
  split at h
  ·rename_i d hd
   split at hd
   ·rename_i hb
    injection hd with hd
    have:=oL r _ m h
    simp only[parseUint10,if_pos hb]
    rw[if_neg aa,if_neg aa,hd]
    exact qI r _ m h hm
   ·cases hd
  ·cases h
open Go.Lib in
theorem j5:∀(l:List UInt8) (acc:Nat) (b:UInt8),decFrom acc (l++[b])=match decFrom acc l,digitVal b with|some n,some d=>some (n*10+d)|_,_=>none
 | [],acc,b=>by simp only[List.nil_append,decFrom];cases digitVal b<;>rfl
 |c::r,acc,b=>by
  simp only[List.cons_append,decFrom]
  cases digitVal c with
  |none=>rfl
  |some d=>exact j5 r _ b
open Go.Lib in
theorem nu {d:Nat} (h:d<10):digitVal (UInt8.ofNat (48+d))=some d:=by
 have e:(UInt8.ofNat (48+d)).toNat=48+d:=by simp;omega
 unfold digitVal
 rw[e,if_pos aa]
 congr 1;omega
open Go.Lib in
theorem jF (u:Nat):decFrom 0 (decDigits u)=some u:=by
 induction u using Nat.strongRecOn with
 |ind u ih=>
  rw[decDigits]
  split
  ·rename_i h
   have:=j5 [] 0 (UInt8.ofNat (48+u))
   rw[nu h] at this
   simpa [decFrom] using this
  ·rename_i h
   rw[j5,ih (u / 10) aa,nu aa]
   simp only[Option.some.injEq];omega
open Go.Lib in
theorem oM (u:Nat):∃b r,decDigits u=b::r/\48<=b.toNat/\b.toNat<=57:=by
 induction u using Nat.strongRecOn with
 |ind u ih=>
  rw[decDigits]
  split
  ·rename_i h
   exact⟨_,[],rfl,by simp;omega,by simp;omega⟩
  ·rename_i h
   obtain⟨b,r,h1,h2⟩:=ih (u / 10) aa
   rw[h1]
   exact⟨b,_,rfl,h2⟩
open Go.Lib in
def mE (l:List UInt8):Option Nat:=match decFrom 0 l with
 |some m=>if m<9223372036854775808/\decDigits m=l then some m else none
 |none=>none
open Go.Lib in
theorem iE {l:List UInt8} {m:Nat}:mE l=some m↔m<9223372036854775808/\decDigits m=l:=by
 unfold mE
 constructor
 ·intro h
  split at h
  ·split at h
   ·rename_i hc;injection h with h;subst h;exact hc
   ·cases h
  ·cases h
 ·rintro⟨h1,rfl⟩
  rw[jF]
  simp [h1]
open Go.Lib in
theorem oN (m:Nat):itoa (m:Int)=decDigits m:=by
 unfold itoa
 rw[if_neg aa];rfl
open Go.Lib in
theorem mF {l:List UInt8} {m:Nat} (h:mE l=some m):atoiAll l = .ok (m:Int):=by
 obtain⟨h1,rfl⟩:=iE.1 h
 obtain⟨b,r,hb,h2,h3⟩:=oM m
 have hd:=jF m
 rw[hb] at hd ⊢
 rw[atoiAll_plain b r aa aa]
 unfold parseMag
 rw[if_neg (by simp),qI _ _ _ hd aa]
 simp only[signless]
 rw[if_neg aa]
open Go.Lib in
theorem y8 {l:List UInt8} {v:Int} (h:atoiAll l = .ok v) (h0:0<=v) (hi:itoa v=l):mE l=some v.toNat:=by
 have hb:=atoiAll_bounds h
 refine iE.2 ⟨aa,?_⟩
 rw[<-hi]
 unfold itoa
 rw[if_neg aa]
end Go.Proofs.YtoegnikpokgbfaaGreatDoor
set_option maxRecDepth 8000
namespace Go.Proofs.YtoegnikpokgbfaaGreatDoor
open Go Go.Dv
open Go.Vc (D cF cG cv aX)
abbrev irow (n:Int):List D:=[int n]
mutual
inductive Expr where
 |mk (kind:Int) (op:Int) (not:Bool) (val:Val) (qual:ByteArray) (name:ByteArray) (kids:List Expr) (sub:List Query)
inductive Item where
 |mk (star:Bool) (qual:ByteArray) (e:Expr) (as_:ByteArray)
inductive Source where
 |mk (table:ByteArray) (as_:ByteArray) (on:List Expr)
inductive SortKey where
 |mk (e:Expr) (desc:Bool)
inductive Query where
 |mk (distinct:Bool) (items:List Item) (from_:List Source) (where_:List Expr) (order:List SortKey) (limit:Int)
end
mutual
def Expr.row:Expr->List D
 |.mk kind op not val qual name kids sub=>int kind::int op::bool not::int val.kind::int val.num::str val.text::str qual::str name :: .sl kids.length (gu kids) :: .sl sub.length (iF sub)::[]
def Item.row:Item->List D
 |.mk star qual e as_=>bool star::str qual::(e.row++str as_::[])
def Source.row:Source->List D
 |.mk table as_ on=>str table::str as_ :: .sl on.length (gu on)::[]
def SortKey.row:SortKey->List D
 |.mk e desc=>(e.row++bool desc::[])
def Query.row:Query->List D
 |.mk distinct items from_ where_ order limit=>bool distinct :: .sl items.length (jG items) :: .sl from_.length (gw from_) :: .sl where_.length (gu where_) :: .sl order.length (fy order)::int limit::[]
def gu:List Expr->List D
 | []=>[]
 |x::r=>x.row++gu r
def jG:List Item->List D
 | []=>[]
 |x::r=>x.row++jG r
def iF:List Query->List D
 | []=>[]
 |x::r=>x.row++iF r
def fy:List SortKey->List D
 | []=>[]
 |x::r=>x.row++fy r
def gw:List Source->List D
 | []=>[]
 |x::r=>x.row++gw r
end
theorem gS:∀l:List Expr,gu l=l.flatMap Expr.row
 | []=>by rw[gu,List.flatMap_nil]
 |x::r=>by rw[gu,List.flatMap_cons,gS r]
theorem nv:∀l:List Item,jG l=l.flatMap Item.row
 | []=>by rw[jG,List.flatMap_nil]
 |x::r=>by rw[jG,List.flatMap_cons,nv r]
theorem lV:∀l:List Query,iF l=l.flatMap Query.row
 | []=>by rw[iF,List.flatMap_nil]
 |x::r=>by rw[iF,List.flatMap_cons,lV r]
theorem jH:∀l:List SortKey,fy l=l.flatMap SortKey.row
 | []=>by rw[fy,List.flatMap_nil]
 |x::r=>by rw[fy,List.flatMap_cons,jH r]
theorem l6:∀l:List Source,gw l=l.flatMap Source.row
 | []=>by rw[gw,List.flatMap_nil]
 |x::r=>by rw[gw,List.flatMap_cons,l6 r]
theorem Expr.row_mk (kind:Int) (op:Int) (not:Bool) (val:Val) (qual:ByteArray) (name:ByteArray) (kids:List Expr) (sub:List Query):(Expr.mk kind op not val qual name kids sub).row=int kind::int op::bool not::int val.kind::int val.num::str val.text::str qual::str name :: .sl kids.length (kids.flatMap Expr.row) :: .sl sub.length (sub.flatMap Query.row)::[]:=by rw[Expr.row];rw[gS];rw[lV]
theorem Item.row_mk (star:Bool) (qual:ByteArray) (e:Expr) (as_:ByteArray):(Item.mk star qual e as_).row=bool star::str qual::(e.row++str as_::[]):=by rw[Item.row]
theorem Source.row_mk (table:ByteArray) (as_:ByteArray) (on:List Expr):(Source.mk table as_ on).row=str table::str as_ :: .sl on.length (on.flatMap Expr.row)::[]:=by rw[Source.row];rw[gS]
theorem SortKey.row_mk (e:Expr) (desc:Bool):(SortKey.mk e desc).row=(e.row++bool desc::[]):=by rw[SortKey.row]
theorem Query.row_mk (distinct:Bool) (items:List Item) (from_:List Source) (where_:List Expr) (order:List SortKey) (limit:Int):(Query.mk distinct items from_ where_ order limit).row=bool distinct :: .sl items.length (items.flatMap Item.row) :: .sl from_.length (from_.flatMap Source.row) :: .sl where_.length (where_.flatMap Expr.row) :: .sl order.length (order.flatMap SortKey.row)::int limit::[]:=by rw[Query.row];rw[gS];rw[nv];rw[jH];rw[l6]
theorem Expr.row_len (x:Expr):x.row.length=10:=by cases x;simp [Expr.row]
theorem Expr.tk (x:Expr) (r:List D):fE 10 (x.row++r)=some x.row:=gp (Expr.row_len x)
theorem Expr.ne (x:Expr) (r:List D):x.row++r≠[]:=fun h=>by have:=congrArg List.length h;simp [Expr.row_len] at this
theorem Source.row_len (x:Source):x.row.length=3:=by cases x;simp [Source.row]
theorem Source.ne (x:Source) (r:List D):x.row++r≠[]:=fun h=>by have:=congrArg List.length h;simp [Source.row_len] at this
theorem Query.row_len (x:Query):x.row.length=6:=by cases x;simp [Query.row]
theorem Query.tk (x:Query) (r:List D):fE 6 (x.row++r)=some x.row:=gp (Query.row_len x)
theorem Query.ne (x:Query) (r:List D):x.row++r≠[]:=fun h=>by have:=congrArg List.length h;simp [Query.row_len] at this
theorem Item.row_len (x:Item):x.row.length=13:=by cases x;simp [Item.row,Expr.row_len]
theorem Item.ne (x:Item) (r:List D):x.row++r≠[]:=fun h=>by have:=congrArg List.length h;simp [Item.row_len] at this
theorem SortKey.row_len (x:SortKey):x.row.length=11:=by cases x;simp [SortKey.row,Expr.row_len]
theorem SortKey.ne (x:SortKey) (r:List D):x.row++r≠[]:=fun h=>by have:=congrArg List.length h;simp [SortKey.row_len] at this
mutual
def szExpr:Expr->Nat
 |.mk kind op not val qual name kids sub=>jt val+(qual.size+(name.size+(bE kids+(cD sub))))
def lu:Item->Nat
 |.mk star qual e as_=>qual.size+(szExpr e+(as_.size))
def dY:Source->Nat
 |.mk table as_ on=>table.size+(as_.size+(bE on))
def gj:SortKey->Nat
 |.mk e desc=>szExpr e
def szQuery:Query->Nat
 |.mk distinct items from_ where_ order limit=>fY items+(cO from_+(bE where_+(d8 order)))
def bE:List Expr->Nat
 | []=>0
 |x::r=>szExpr x+1+bE r
def fY:List Item->Nat
 | []=>0
 |x::r=>lu x+1+fY r
def cD:List Query->Nat
 | []=>0
 |x::r=>szQuery x+1+cD r
def d8:List SortKey->Nat
 | []=>0
 |x::r=>gj x+1+d8 r
def cO:List Source->Nat
 | []=>0
 |x::r=>dY x+1+cO r
end
theorem aL:∀l:List Expr,bE l=l.length+(l.map szExpr).sum
 | []=>by rw[bE];rfl
 |x::r=>by rw[bE,aL r,List.length_cons,List.map_cons,List.sum_cons];omega
theorem ei:∀l:List Item,fY l=l.length+(l.map lu).sum
 | []=>by rw[fY];rfl
 |x::r=>by rw[fY,ei r,List.length_cons,List.map_cons,List.sum_cons];omega
theorem bI:∀l:List Query,cD l=l.length+(l.map szQuery).sum
 | []=>by rw[cD];rfl
 |x::r=>by rw[cD,bI r,List.length_cons,List.map_cons,List.sum_cons];omega
theorem cU:∀l:List SortKey,d8 l=l.length+(l.map gj).sum
 | []=>by rw[d8];rfl
 |x::r=>by rw[d8,cU r,List.length_cons,List.map_cons,List.sum_cons];omega
theorem dF:∀l:List Source,cO l=l.length+(l.map dY).sum
 | []=>by rw[cO];rfl
 |x::r=>by rw[cO,dF r,List.length_cons,List.map_cons,List.sum_cons];omega
theorem aZ (kind:Int) (op:Int) (not:Bool) (val:Val) (qual:ByteArray) (name:ByteArray) (kids:List Expr) (sub:List Query):szExpr (.mk kind op not val qual name kids sub)=jt val+(qual.size+(name.size+(bE kids+(cD sub)))):=by rw[szExpr]
theorem kG (star:Bool) (qual:ByteArray) (e:Expr) (as_:ByteArray):lu (.mk star qual e as_)=qual.size+(szExpr e+(as_.size)):=by rw[lu]
theorem dw (table:ByteArray) (as_:ByteArray) (on:List Expr):dY (.mk table as_ on)=table.size+(as_.size+(bE on)):=by rw[dY]
theorem j6 (e:Expr) (desc:Bool):gj (.mk e desc)=szExpr e:=by rw[gj]
theorem dy (distinct:Bool) (items:List Item) (from_:List Source) (where_:List Expr) (order:List SortKey) (limit:Int):szQuery (.mk distinct items from_ where_ order limit)=fY items+(cO from_+(bE where_+(d8 order))):=by rw[szQuery]
structure Tok where
 kind:Int
 text:ByteArray
 at_:Int
def Tok.row (t:Tok):List D:=[int t.kind,str t.text,int t.at_]
theorem Tok.row_len (t:Tok):t.row.length=3:=rfl
def l8:List ByteArray:=[⟨#[40]⟩,⟨#[41]⟩,⟨#[44]⟩,⟨#[46]⟩,⟨#[42]⟩,⟨#[43]⟩,⟨#[45]⟩,⟨#[47]⟩,⟨#[37]⟩,⟨#[61]⟩,⟨#[60,62]⟩,⟨#[60]⟩,⟨#[60,61]⟩,⟨#[62]⟩,⟨#[62,61]⟩,⟨#[124,124]⟩]
def sR (s:ByteArray):Bool:=l8.any fun x=>decide (s=x)
theorem BJ:Cl Tryz.prog 316 [] [] fun r _=>r = .c (.sl 16 (l8.flatMap srow) none):=by
 refine am ah false Tryz.func316 rfl ac ?_
 simp only[tt,seval,Tryz.f316]
 refine⟨_,[],rfl,au ?_⟩
 simp only[tt,seval,l8,srow]
theorem y9 (s:ByteArray):decide (0<=oH s l8)=sR s:=by
 unfold oH sR
 by_cases h:l8.findIdx (fun w=>decide (w=s))<l8.length
 ·rw[if_pos h]
  have:=List.findIdx_getElem (w:=h)
  have hm:=aH h
  refine (aF aa).trans (Eq.symm ?_)
  rw[List.any_eq_true]
  exact⟨_,hm,by simpa [eq_comm] using this⟩
 ·rw[if_neg h]
  refine (aG aa).trans (Eq.symm ?_)
  rw[List.any_eq_false]
  intro x hx
  have:=List.findIdx_lt_length (xs:=l8) (p:=fun w=>decide (w=s))
  simp only[h,false_iff,not_exists,not_and] at this
  simpa [eq_comm] using this x hx
theorem uT (s:ByteArray):Cl Tryz.prog 315 [.c (.sl 16 (l8.flatMap srow) none),vs s] [] fun r _=>r=vb (sR s):=by
 refine am ah false Tryz.func315 rfl ac ?_
 simp only[Tryz.f315,tt,seval]
 refine cZ (wE l8 s) ?_ ?_<;>simp only[tt,seval,show l8.length=16 from rfl]
 exact⟨_,_,aY (by rw[<-y9]),ao rfl⟩
theorem ya (s:ByteArray):Cl Tryz.prog 310 [vs s] [] fun r _=>r=vb (sR s):=by
 refine am ah false Tryz.func310 rfl ac ?_
 simp only[Tryz.f310,tt,seval]
 refine cZ (BJ) ?_ ?_<;>simp only[tt,seval]
 refine cZ (uT s) ?_ ?_<;>simp only[tt,seval]
 exact⟨_,_,rfl,ao rfl⟩
def Gb:List ByteArray:=⟨#[]⟩::[⟨#[79,82]⟩,⟨#[65,78,68]⟩,⟨#[61]⟩,⟨#[60,62]⟩,⟨#[60]⟩,⟨#[60,61]⟩,⟨#[62]⟩,⟨#[62,61]⟩,⟨#[124,124]⟩,⟨#[43]⟩,⟨#[45]⟩,⟨#[42]⟩,⟨#[47]⟩,⟨#[37]⟩,⟨#[78,79,84]⟩,⟨#[45]⟩]
def iC (k:Int):ByteArray:=if 1<=k/\k<=16 then Gb.getD k.toNat ⟨#[]⟩ else ⟨#[]⟩
def kw (k:Nat):ByteArray:=sO.getD k ⟨#[]⟩
end Go.Proofs.YtoegnikpokgbfaaGreatDoor
set_option maxRecDepth 8000
namespace Go.Proofs.YtoegnikpokgbfaaGreatDoor
open Go Go.Dv
open Go.Vc (D cF cG cv aX)
open Go.RowKit (Below)
theorem zw:([.lit (.string ⟨#[79,82]⟩),.lit (.string ⟨#[65,78,68]⟩),.lit (.string ⟨#[61]⟩),.lit (.string ⟨#[60,62]⟩),.lit (.string ⟨#[60]⟩),.lit (.string ⟨#[60,61]⟩),.lit (.string ⟨#[62]⟩),.lit (.string ⟨#[62,61]⟩),.lit (.string ⟨#[124,124]⟩),.lit (.string ⟨#[43]⟩),.lit (.string ⟨#[45]⟩),.lit (.string ⟨#[42]⟩),.lit (.string ⟨#[47]⟩),.lit (.string ⟨#[37]⟩),.lit (.string ⟨#[78,79,84]⟩),.lit (.string ⟨#[45]⟩)]:List D)=Gb.tail.flatMap srow:=rfl
theorem eR (k:Int):Cl Tryz.prog 144 [vi k] [] fun r _=>r=vs (iC k):=by
 refine am ah false Tryz.func144 rfl ac ?_
 simp only[Tryz.f144,tt,seval]
 by_cases h1:k<1
 ·simp only[tt,seval,aF h1]
  exact⟨_,_,zo (by rw[iC,if_neg aa]),ao rfl⟩
 ·simp only[tt,seval,aG h1]
  refine ab (fun h2=>?_) (fun h2=>?_)
  ·exact⟨_,_,zo (by rw[iC,if_neg aa]),ao rfl⟩
  ·have hc:1<=k/\k<=16:=by omega
   have hlt:(k-1).toNat<Gb.tail.length:=by show _<16;omega
   rw[aI (n:=k-1) aa aa]
   refine⟨aa,aa,?_⟩
   rw[zw,aD jC (aC hlt)]
   simp only[tt,seval,srow]
   have hlt':k.toNat<Gb.length:=by show _<17;omega
   refine⟨_,_,zo ?_,ao rfl⟩
   rw[iC,if_pos hc,List.getD_eq_getElem?_getD,aC hlt']
   simp only[List.getElem_tail,Option.getD_some,show (k-1).toNat+1=k.toNat by omega]
theorem wG:Tryz.prog.underlying 248=some (.interface (Tryz.prog.methodsAt 248)):=by kernel_rfl
theorem BK {n:Nat} {d:Option Nat} {K:K0} {f:Rg} {L:Ob} {p:Po} {x:Operand}:bR Tryz.prog n d (do eqGuard .neq 248 x (.const .nilIface) .nilIface .nilIface;binOp .neq 248 .nilIface .nilIface) K f L p=K (put n f d (.c (.v (.bool false)))) L p:=
 bb (fun w=>by rw[Sem.run_bind];simp [eqGuard,run_neq_nil_nil w 248 wG]) trivial
theorem DQ {n:Nat} {d:Option Nat} {K:K0} {f:Rg} {L:Ob} {p:Po} {x y:Operand} {u:TypeId} {v:Value}:bR Tryz.prog n d (do eqGuard .neq 248 x y (.iface u v) .nilIface;binOp .neq 248 (.iface u v) .nilIface) K f L p=K (put n f d (.c (.v (.bool true)))) L p:=
 bb (fun w=>by rw[Sem.run_bind];simp [eqGuard,run_neq_held_nil w 248 u v wG]) trivial
theorem BL {w:World} {own:Nat->Prop} (h:GlW w own):(∃v,w.cell? ⟨6,0,none⟩=some v/\(v = .nilIface∨∃t p,v = .iface t p))/\(∃v,w.cell? ⟨7,0,none⟩=some v/\(v = .nilIface∨∃t p,v = .iface t p)):=by
 constructor
 ·obtain⟨_,cs,ty,lh,h2,v,h3,h4⟩:=h _ (List.mem_cons_of_mem _ (List.mem_cons_of_mem _ (List.mem_cons_self)))
  exact⟨v,by simp only[World.cell?,h2];exact h3,h4⟩
 ·obtain⟨_,cs,ty,lh,h2,v,h3,h4⟩:=h _ (List.mem_cons_of_mem _ (List.mem_cons_of_mem _ (List.mem_cons_of_mem _ (List.mem_cons_self))))
  exact⟨v,by simp only[World.cell?,h2];exact h3,h4⟩
def Gc (s:ByteArray) (r:S):Prop:=∃n e,r = .tu [([.v (.int .i64 n)],true),([.v e],true)]/\((e = .nilIface/\Lib.atoiAll s.data.toList = .ok n)∨((∃t p,e = .iface t p)/\∀v,Lib.atoiAll s.data.toList ≠ .ok v))
theorem DR (s:ByteArray) (hs:s.size<=1048576):Cl Tryz.prog 301 [vs s] [] fun r _=>Gc s r:=
 Cl.ofNew ac [.string s] fun w hg=>by
  obtain⟨⟨ev,h4,h4'⟩,⟨ev',h5,h5'⟩⟩:=BL hg
  rcases ha:Lib.atoiAll s.data.toList with v|_|_
  ·skip
   refine (Any.strconv_Atoi_ok Tryz.laysC172 s aa v ha w).mono ?_
   rintro e w' ⟨rfl,hw⟩
   refine⟨_,.tu [([.v (.int .i64 v)],true),([.v .nilIface],true)],rfl,⟨v,_,rfl,.inl ⟨rfl,ha⟩⟩,rfl,fun β=>⟨_,rfl,⟨⟨rfl,trivial⟩,trivial⟩,⟨⟨rfl,trivial⟩,trivial⟩,trivial⟩,?_⟩
   rcases hw with rfl|⟨t,rfl⟩
   ·exact Below.refl _ _
   ·exact Lib.bytesWorld_below _ _ _
  ·refine (Any.strconv_Atoi_syntax Tryz.laysC172 s aa ha ev w h4 h4').mono ?_
   rintro e w' ⟨N,rfl,_,_,hb⟩
   exact⟨_,.tu [([.v (.int .i64 _)],true),([.v (.iface _ _)],true)],rfl,⟨_,_,rfl,.inr ⟨⟨_,_,rfl⟩,fun v h=>by rw[ha] at h;cases h⟩⟩,rfl,fun β=>⟨_,rfl,⟨⟨rfl,trivial⟩,trivial⟩,⟨⟨rfl,trivial⟩,trivial⟩,trivial⟩,hb⟩
  ·refine (Any.strconv_Atoi_range Tryz.laysC172 s aa ha ev' w h5 h5').mono ?_
   rintro e w' ⟨N,rfl,_,_,hb⟩
   exact⟨_,.tu [([.v (.int .i64 _)],true),([.v (.iface _ _)],true)],rfl,⟨_,_,rfl,.inr ⟨⟨_,_,rfl⟩,fun v h=>by rw[ha] at h;cases h⟩⟩,rfl,fun β=>⟨_,rfl,⟨⟨rfl,trivial⟩,trivial⟩,⟨⟨rfl,trivial⟩,trivial⟩,trivial⟩,hb⟩
def jI (s:ByteArray):Bool:=(mE s.data.toList).isSome
def j8 (s:ByteArray):Int:=((mE s.data.toList).getD 0:Nat)
def uU (s:ByteArray):S:=.tu [([.v (.int .i64 (j8 s))],true),([.v (.bool (jI s))],true)]
theorem qJ (s:ByteArray) (hs:s.size<=1048576):Cl Tryz.prog 294 [vs s] [] fun r _=>r=uU s:=by
 refine am ah false Tryz.func294 rfl ac ?_
 simp only[Tryz.f294,tt,seval]
 refine cy (DR s hs) ?_ ?_ ?_
 ·decide
 ·simp only[tt,seval]
 rintro r ⟨n,e,rfl,hh⟩
 simp only[tt,seval]
 rcases hh with⟨rfl,ha⟩|⟨⟨tt',pp,rfl⟩,hne⟩
 ·rw[BK]
  simp only[tt,seval]
  have hb:=Lib.atoiAll_bounds ha
  by_cases hn:n<0
  ·simp only[tt,seval,aF hn]
   have hno:mE s.data.toList=none:=by
    cases hc:mE s.data.toList with
    |none=>rfl
    |some m=>have:=mF hc;rw[ha] at this;injection this;omega
   exact⟨_,_,by rw[uU,j8,jI,hno];rfl,ao rfl⟩
  ·simp only[tt,seval,aG hn]
   refine cZ (kF n aa aa) ?_ ?_<;>simp only[tt,seval]
   refine ab (fun he=>?_) (fun he=>?_)
   ·have he':¬dX n=s:=by simpa only[Bool.not_eq_true',decide_eq_false_iff_not] using he
    have hno:mE s.data.toList=none:=by
     cases hc:mE s.data.toList with
     |none=>rfl
     |some m=>
      have h1:=mF hc
      obtain⟨_,h2⟩:=iE.1 hc
      rw[ha] at h1
      injection h1 with h1
      refine absurd (zr ?_) he'
      rw[dX,h1,oN,h2]
    exact⟨_,_,by rw[uU,j8,jI,hno];rfl,ao rfl⟩
   ·have he':dX n=s:=by simpa only[Bool.not_eq_false',decide_eq_true_eq] using he
    have hc:=y8 ha aa (by rw[<-he'];rfl)
    exact⟨_,_,by rw[uU,j8,jI,hc];simp only[Option.getD_some,Option.isSome_some,Int.toNat_of_nonneg (show 0<=n by omega)],ao rfl⟩
 ·rw[DQ]
  simp only[tt,seval]
  have hno:mE s.data.toList=none:=by
   cases hc:mE s.data.toList with
   |none=>rfl
   |some m=>exact absurd (mF hc) (hne _)
  exact⟨_,_,by rw[uU,j8,jI,hno];rfl,ao rfl⟩
end Go.Proofs.YtoegnikpokgbfaaGreatDoor
set_option maxRecDepth 8000
namespace Go.Proofs.YtoegnikpokgbfaaGreatDoor
open Go Go.Dv
open Go.Vc (D cF cG cv aX)
def eN (t:Tok):Bool:=if t.kind=1 then (decide (¬key t.text=0)&&decide (oG t.text=t.text)) else if t.kind=2 then decide (1<=t.text.size/\t.text.size<=20) else if t.kind=3 then jI t.text else if t.kind=4 then decide (t.text.size<=40) else if t.kind=5 then sR t.text else false
theorem uV (t:Tok) (hs:t.text.size<=1048576):Cl Tryz.prog 300 [.ag (ar t.row)] [] fun r _=>r=vb (eN t):=by
 rw[Tok.row]
 refine am ah false Tryz.func300 rfl ac ?_
 simp only[Tryz.f300,tt,seval]
 refine ab (fun h1=>?_) (fun h1=>?_)
 ·skip
  refine dDrawn.intro [] (kV [0,2,5,6,8,10,12,16,18,15,20,22,24]) ac ?_
  simp only[tt,seval]
  refine cZ (zq t.text hs) ?_ ?_<;>simp only[tt,seval]
  have hk:=DP t.text
  have hgt:True:=trivial
  by_cases hz:key t.text=0
  ·simp only[tt,seval,aF hz]
   exact⟨_,_,aY (by rw[eN,if_pos h1,aG (not_not_intro hz)];rfl),ao rfl⟩
  ·simp only[tt,seval,aG hz]
   refine cZ (wD t.text hs) ?_ ?_<;>simp only[tt,seval]
   exact⟨_,_,aY (by rw[eN,if_pos h1,aF hz];rfl),ao rfl⟩
 ·try simp only[tt,seval]
  refine ab (fun h2=>?_) (fun h2=>?_)
  ·skip
   refine cZ (iD t.text) ?_ ?_<;>simp only[tt,seval]
   exact⟨_,_,aY (by rw[eN,if_neg h1,if_pos h2]),ao rfl⟩
  ·try simp only[tt,seval]
   refine ab (fun h3=>?_) (fun h3=>?_)
   ·skip
    refine cZ (qJ t.text hs) ?_ ?_<;>simp only[tt,seval,uU]
    exact⟨_,_,aY (by rw[eN,if_neg h1,if_neg h2,if_pos h3]),ao rfl⟩
   ·try simp only[tt,seval]
    refine ab (fun h4=>?_) (fun h4=>?_)
    ·try simp only[tt,seval]
     refine fun _=>?_
     exact⟨_,_,aY (by rw[eN,if_neg h1,if_neg h2,if_neg h3,if_pos h4];simp only[decide_eq_decide];omega),ao rfl⟩
    ·try simp only[tt,seval]
     refine ab (fun h5=>?_) (fun h5=>?_)
     ·skip
      refine cZ (ya t.text) ?_ ?_<;>simp only[tt,seval]
      exact⟨_,_,aY (by rw[eN,if_neg h1,if_neg h2,if_neg h3,if_neg h4,if_pos h5]),ao rfl⟩
     ·exact⟨_,_,aY (by rw[eN,if_neg h1,if_neg h2,if_neg h3,if_neg h4,if_neg h5]),ao rfl⟩
def BM (t:Tok):ByteArray:=if eN t=false then ⟨#[]⟩ else if t.kind=2 then De t.text else if t.kind=4 then lq 39 t.text else t.text
def Dg (t:Tok):Bool:=decide (t.kind=1)||(decide (t.kind=3)||(decide (t.kind=2)&&uS t.text))
def Dh (t:Tok):Bool:=decide (t.kind=2) && !uS t.text
def Hr (a b:Tok):Bool:=
 if ¬a.kind=5 then false else if ¬b.kind=5 then false else
 if a.text=⟨#[45]⟩ then decide (b.text=⟨#[45]⟩) else if a.text=⟨#[47]⟩ then decide (b.text=⟨#[42]⟩) else
 if a.text=⟨#[60]⟩ then (decide (b.text.data.toList.headD 0=61)||decide (b.text.data.toList.headD 0=62)) else if a.text=⟨#[62]⟩ then decide (b.text.data.toList.headD 0=61) else false
def Ht (a b:Tok):Bool:=if ((Dg a&&Dg b)||(Dh a&&Dh b)||(decide (a.kind=4)&&decide (b.kind=4)))=true then true else Hr a b
def Hu (a b:Tok):Bool:=if (!(eN a&&eN b))=true then false else Ht a b
def jn (l:List Tok) (i:Nat):List UInt8:=if h:i<l.length then (if 0<i/\Hu (l[i-1]'(by omega)) l[i]=true then [32] else [])++(BM l[i]).data.toList else []
def qK (l:List Tok) (k:Nat):List UInt8:=(List.range k).flatMap (jn l)
theorem uW (l:List Tok) (k:Nat):qK l (k+1)=qK l k++jn l k:=by
 unfold qK
 rw[List.range_succ,List.flatMap_append];simp
def Expr.kind:Expr->Int | .mk k _ _ _ _ _ _ _=>k
def Expr.op:Expr->Int | .mk _ o _ _ _ _ _ _=>o
def Expr.kids:Expr->List Expr | .mk _ _ _ _ _ _ k _=>k
def Expr.sub:Expr->List Query | .mk _ _ _ _ _ _ _ s=>s
def bl (op:Int):Int:=if op=1 then 1 else if op=2 then 2 else if 3<=op/\op<=8 then 4 else if op=9 then 5 else if op=10∨op=11 then 6 else if 12<=op/\op<=14 then 7 else 0
def lv (k op:Int):Int:=if k=4 then bl op else if k=3 then (if op=15 then 3 else if op=16 then 8 else 0) else if 5<=k/\k<=8 then 4 else if k=1∨k=2∨k=9 then 9 else 0
def lT (e:Expr):Int:=lv e.kind e.op
theorem mG (k op:Int):0<=lv k op/\lv k op<=9:=by unfold lv bl;(repeat' split)<;>omega
def nd (kind op:Int) (k:Nat):Int:=if lv kind op=0∨lv kind op=9 then 0 else if kind=4 then (if lv kind op=4 then 5 else if k=0 then lv kind op else lv kind op+1) else if kind=3 then lv kind op else if kind=7/\0<k then 1 else 5
def nw (kind op:Int) (kids:List Expr) (k:Nat):Bool:=decide (lT (kids.getD k (.mk 0 0 false ⟨0,0,⟨#[]⟩⟩ ⟨#[]⟩ ⟨#[]⟩ [] []))<nd kind op k)
theorem uX (op:Int):Cl Tryz.prog 164 [vi op] [] fun r _=>r=vi (bl op):=by
 refine am ah false Tryz.func164 rfl ac ?_
 simp only[Tryz.f164,tt,seval]
 all_goals repeat' first|(refine ab (fun h=>?_) (fun h=>?_)<;>try simp only[tt,seval])|(intro _;try simp only[tt,seval])
 all_goals first|contradiction|exact⟨_,_,o6 (by subst_vars;rfl),ao rfl⟩|exact⟨_,_,o6 (by unfold bl;(repeat' split)<;>omega),ao rfl⟩
theorem lw (e:Expr):Cl Tryz.prog 99 [.ag (ar e.row)] [] fun r _=>r=vi (lT e):=by
 obtain⟨kind,op,not,val,qual,name,kids,sub⟩:=e
 rw[Expr.row_mk,lT,Expr.kind,Expr.op]
 refine am ah false Tryz.func99 rfl ac ?_
 simp only[Tryz.f99,tt,seval]
 refine ab (fun h4=>?_) (fun h4=>?_)
 ·skip
  refine cZ (uX op) ?_ ?_<;>simp only[tt,seval]
  exact⟨_,_,o6 (by rw[lv,if_pos h4]),ao rfl⟩
 all_goals repeat' first|(refine ab (fun h=>?_) (fun h=>?_)<;>try simp only[tt,seval])|(intro _;try simp only[tt,seval])
 all_goals exact⟨_,_,o6 (by unfold lv;(repeat' split)<;>omega),ao rfl⟩
theorem zx (n:Int):(irow n).length=1:=rfl
theorem BN (v:Int) (r:List D):irow v++r≠[]:=fun h=>by cases h
theorem zy (kind op:Int) (not:Bool) (val:Val) (qual name:ByteArray) (kids:List Expr) (sub:List Query) (k:Nat) (hk:k<kids.length):Cl Tryz.prog 100 [.ag (ar (Expr.mk kind op not val qual name kids sub).row),vi k] [] fun r _=>r=vi (nd kind op k):=by
 rw[Expr.row_mk]
 refine am ah false Tryz.func100 rfl ac ?_
 simp only[Tryz.f100,tt,seval]
 refine cZ (lw (Expr.mk kind op not val qual name kids sub)) ?_ ?_<;>simp only[tt,seval,Expr.row_mk,lT,Expr.kind,Expr.op]
 have hb:=mG kind op
 simp only[tt,seval,aG (show ¬(k:Int)<0 by omega)]
 refine fun hlen=>?_
 simp only[tt,seval,aG (show ¬(kids.length:Int)<=k by omega)]
 by_cases l0:lv kind op=0
 ·simp only[tt,seval,aF l0]
  exact⟨_,_,o6 (by rw[nd,if_pos (Or.inl l0)]),ao rfl⟩
 simp only[tt,seval,aG l0]
 refine ab (fun l9=>?_) (fun l9=>?_)
 ·exact⟨_,_,o6 (by rw[nd,if_pos (Or.inr l9)]),ao rfl⟩
 have e:nd kind op k=if kind=4 then (if lv kind op=4 then 5 else if k=0 then lv kind op else lv kind op+1) else if kind=3 then lv kind op else if kind=7/\0<k then 1 else 5:=by rw[nd,if_neg aa]
 rw[e]
 all_goals repeat' first|(refine ab (fun h=>?_) (fun h=>?_)<;>try simp only[tt,seval])|(intro _;try simp only[tt,seval])
 all_goals try rw[aI (n:=lv kind op+(if (1:Int)<k then 1 else (k:Int))) (by split<;>omega) (by split<;>omega)]
 all_goals first|contradiction|exact⟨_,_,o6 (by (repeat' split)<;>omega),ao rfl⟩
theorem uY (kind op:Int) (not:Bool) (val:Val) (qual name:ByteArray) (kids:List Expr) (sub:List Query) (k:Nat) (hk:k<kids.length):Cl Tryz.prog 42 [.ag (ar (Expr.mk kind op not val qual name kids sub).row),vi k] [] fun r _=>r=vb (nw kind op kids k):=by
 rw[Expr.row_mk]
 refine am ah false Tryz.func42 rfl ac ?_
 simp only[Tryz.f42,tt,seval]
 refine dDrawn.intro [] (kV [0,2,4,6,8,10,12,14,16,18,20,22,24,26,28,32,34,31,37,38,40,42]) ac ?_
 simp only[tt,seval]
 simp only[tt,seval,aF (show (0:Int)<=k by omega)]
 refine fun hlen=>?_
 simp only[tt,seval,aF (show (k:Int)<kids.length by omega)]
 refine⟨aa,aa,_,aD Expr.row_len (aC hk),Expr.ne _ _,?_⟩
 simp only[seval,Expr.tk,Expr.row_len]
 refine cZ (lw kids[k]) ?_ ?_<;>simp only[tt,seval]
 refine cZ (zy kind op not val qual name kids sub k hk) ?_ ?_<;>simp only[tt,seval,Expr.row_mk]
 exact⟨_,_,aY (by rw[nw,List.getD_eq_getElem?_getD,aC hk];rfl),ao rfl⟩
end Go.Proofs.YtoegnikpokgbfaaGreatDoor
namespace Go.Cv
open Go Go.RowKit Go.Dv
open Go.Vc (gO guardSlot bX vis aJ CellF RowF ValsF D inN d6 callable aM dE tyS TS sizeTS elemS an cY aR gQ mw bW aT fN dP cK inN inN_iff Plan dsts dstsOps Cells oneCell_eq)
abbrev K1:=Rg->World->Prop
abbrev KX:=Exit->K1
def Rv:S->Value->Prop
 |.c (.v x),y=>y=x
 |.c .dead,_=>True
 |.c (.fn g [] []),y=>y = .func (.func g) #[] #[]
 |.ag _,_=>True
 |_,_=>False
structure CSim (n:Nat) (f:Rg) (a:Act):Prop where
 size:a.tmps.size=n
 defers:a.defers=[]
 slots:∀i,Rv (f i) (a.tmps.getD i undef)
def argsV:List S->Option (List Value)
 | []=>some []
 |.c (.v x)::r=>match argsV r with|some vs=>some (x::vs)|none=>none
 |_::_=>none
def Stp (K:K1) (f:Rg) (w:World):Prop:=K f w
theorem Stp.go {K:K1} {f:Rg} {w:World} (h:K f w):Stp K f w:=h
def Ge (P:Program) (n:Nat) (d:Option Nat) (g:FuncId) (vs:List Value) (K:K1):K1:=fun f w=>
 callable P g=true/\∃R:Value->World->Prop,Calls P g vs.toArray w (fun e w'=>∃v,e = .returned v/\R v w')/\∀v w',R v w'->Stp K (put n f d (.c (.v v))) w'
def cLoad (P:Program) (n:Nat) (d:Option Nat) (t:TypeId) (ad:Addr) (K:K1):K1:=fun f w=>
 tyS P t = .one/\∃v,w.cell? ad=some v/\K (put n f d (.c (.v v))) w
def cStore (P:Program) (n:Nat) (d:Option Nat) (t:TypeId) (ad:Addr) (v:Value) (K:K1):K1:=fun f w=>
 tyS P t = .one/\Go.Vc.oneCell v=true/\(w.cell? ad).isSome=true/\w.frozen? ad=false/\∃w',w.setCell ad v=w'/\Stp K (put n f d (.c .dead)) w'
def cBox (P:Program) (n:Nat) (d:Option Nat) (t:TypeId) (vs:List Value) (K:K1):K1:=fun f w=>
 ∀b w',b=w.heap.size->w'=w.alloc (.cells vs.toArray t)->K (put n f d (.c (.v (.pointer (some ⟨b,0,none⟩))))) w'
def cLoadA (n:Nat) (d:Option Nat) (k b off:Nat) (K:K1):K1:=fun f w=>
 ∃vs:List Value,vs.length=k/\Cells w b off vs/\K (put n f d (.c (.v (.agg vs.toArray)))) w
def cAlloc (n:Nat) (d:Option Nat) (t:TypeId) (z:List Value) (K:K1):K1:=fun f w=>
 ∀b w',b=w.heap.size->w'=w.alloc (.cells z.toArray t)->K (put n f d (.c (.v (.pointer (some ⟨b,0,none⟩))))) w'
def BO (n:Nat) (d:Option Nat) (b:Nat) (vs:List Value) (K:K1):K1:=fun f w=>
 (∃cur t fz,w.heap[b]?=some (.cells cur t fz)/\Lh cur.size fz/\vs.length=cur.size)/\(∀v∈vs,v.oneCell'=true)/\∃w',w.setRow b vs.toArray=w'/\Stp K (put n f d (.c .dead)) w'
def cOp (P:Program) (n:Nat) (o:Oper) (K:K1):K1:=fun f w=>
 match o.op with
 |.move x | .assign x=>K (put n f o.dst (ev f x)) w
 | .binOp op t x y _=>(match ev f x,ev f y with
  |.c (.v a),.c (.v b)=>bR P n o.dst (do eqGuard op t x y a b;binOp op t a b) (fun f' _ _=>K f' w) f [] none
  | _,_=>False)
 | .unOp op _ x=>(match ev f x with
  |.c (.v a)=>bR P n o.dst (Op.unary op a) (fun f' _ _=>K f' w) f [] none
  | _=>False)
 | .convert s t x=>(match ev f x with
  |.c (.v a)=>bR P n o.dst (convert s t a) (fun f' _ _=>K f' w) f [] none
  | _=>False)
 | .extract x i=>(match ev f x with
  |.c (.v (.tuple ys))=>∃v,ys[i]?=some v/\K (put n f o.dst (.c (.v v))) w
  | _=>False)
 | .indexAddr T x i=>(match ev f x,ev f i,elemS P T with
  |.c (.v (.slice (some ⟨b,off,none⟩) ln _)),.c (.v (.int _ k)),some (_,sz,_)=>0<=k/\k<ln/\K (put n f o.dst (.c (.v (.pointer (some ⟨b,off+k.toNat*sz,none⟩))))) w
  | _,_,_=>False)
 | .fieldAddr T x k=>(match an P T k,ev f x with
  |some q,.c (.v (.pointer (some ⟨b,off,none⟩)))=>K (put n f o.dst (.c (.v (.pointer (some ⟨b,off+q,none⟩))))) w
  | _,_=>False)
 | .nilCheck x=>(match ev f x with
  |.c (.v (.pointer (some ad)))=>K (put n f o.dst (.c (.v (.pointer (some ad))))) w
  | _=>False)
 | .load t x=>(match ev f x with
  |.c (.v (.pointer (some ⟨b,off,none⟩)))=>(match tyS P t with | .agg k=>cLoadA n o.dst k b off K f w|_=>cLoad P n o.dst t ⟨b,off,none⟩ K f w)
  | _=>False)
 | .store t x y=>(match ev f x,ev f y with
  |.c (.v (.pointer (some ⟨b,0,none⟩))),.c (.v (.agg xs))=>tyS P t = .agg xs.size/\BO n o.dst b xs.toList K f w
  |.c (.v (.pointer (some ⟨b,off,none⟩))),.c (.v v)=>cStore P n o.dst t ⟨b,off,none⟩ v K f w
  | _,_=>False)
 |.alloc t=>(match aS P t with|some z=>cAlloc n o.dst t z K f w|none=>False)
 | .pick x a b=>(match ev f x with
  |.c (.v (.bool t))=>(t=true->K (put n f o.dst (ev f a)) w)/\(t=false->K (put n f o.dst (ev f b)) w)
  | _=>False)
 | .box t x=>(match ev f x with
  |.c (.v (.agg xs))=>cBox P n o.dst t xs.toList K f w
  | _=>False)
 | .call c=>(match c.callee with
  | .value g=>(match ev f g,argsV (c.args.toList.map (ev f)) with
   |.c (.fn g [] []),some vs=>Ge P n o.dst g vs K f w
   | _,_=>False)
  | .builtin .len=>(match c.args.toList.map (ev f),c.argTypes.toList with
   | [.c (.v (.slice ad ln cap))],[T]=>Go.Vc.lenK P T=1/\K (put n f o.dst (.c (.v (.int .i64 ln)))) w
   | [.c (.v (.string s))],[T]=>Go.Vc.lenK P T=2/\K (put n f o.dst (.c (.v (.int .i64 s.size)))) w
   | _,_=>False)
  | _=>False)
 |_=>False
def eS (n:Nat) (ops:Array Oper) (o:Oper) (step:K1->K1) (K:K1):K1:=fun f w=>match o.guard with
 |none=>step K f w
 | some (j,want)=>(match guardSlot ops j with
  | some g=>(match f g with
   |.c (.v (.bool b))=>(b=want->step K f w)/\(b=(!want)->K (put n f o.dst (.c (.v (.tuple #[])))) w)
   |.c (.v (.tuple _))=>K (put n f o.dst (.c (.v (.tuple #[])))) w
   | _=>False)
  | none=>False)
theorem cg0 (n:Nat) (ops:Array Oper) (T:K1->K1) (Q:K1) (f:Rg) (w:World) (dst:Option Nat) (op:Op) (ty:TypeId) (pos:String) (af:Array Edge):eS n ops ⟨dst,op,ty,pos,af,none⟩ T Q f w=T Q f w:=rfl
theorem cg1 (n:Nat) (ops:Array Oper) (T:K1->K1) (Q:K1) (f:Rg) (w:World) (dst:Option Nat) (op:Op) (ty:TypeId) (pos:String) (af:Array Edge) (j:Nat) (want:Bool):eS n ops ⟨dst,op,ty,pos,af,some (j,want)⟩ T Q f w =
 (match guardSlot ops j with
 | some g=>(match f g with
  |.c (.v (.bool b))=>(b=want->T Q f w)/\(b=(!want)->Q (put n f dst (.c (.v (.tuple #[])))) w)
  |.c (.v (.tuple _))=>Q (put n f dst (.c (.v (.tuple #[])))) w
  | _=>False)
 | none=>False):=rfl
def Gf (ws:List Nat) (body:KX->K1) (K:KX):K1:=fun f w=>
 ∃(I:Rg->World->Prop) (μ:Rg->World->Nat),I (bT ws f f) w /\
  ∀g w2,I (bT ws f g) w2->body (fun e f' w'=>match e with
   |.normal=>I (bT ws f f') w'/\μ (bT ws f f') w' < μ (bT ws f g) w2
   | e=>K e f' w') (bT ws f g) w2
structure Gr (w w':World):Prop where
 size:w.heap.size<=w'.heap.size
 keep:∀b,b<w.heap.size->w'.heap[b]?=w.heap[b]?
 os:w'.os=w.os
 tape:w'.tape=w.tape
 output:w'.output=w.output
section
variable {P:Program} {n:Nat} {f:Rg} {a:Act} {w:World} {K:K1} {Ka:Act->World->Prop} {Q:Exit->Act->World->Prop} {ops:Array Oper}
theorem bK (h:CSim n f a) (x:Operand):Rv (ev f x) (a.eval x):=by
 cases x with
 |tmp t=>exact h.slots t
 |const v=>cases v<;>first|rfl|trivial
 |global g=>rfl
 |func g=>rfl
theorem CSim.put (h:CSim n f a) (d:Option Nat) {x:S} {v:Value} (hv:Rv x v):CSim n (Go.Dv.put n f d x) (a.put d v) where
 size:=by rw[Go.Vc.Act.size_put];exact h.size
 defers:=by rw[Go.Vc.Act.defers_put];exact h.defers
 slots:=fun i=>by
  cases d with
  |none=>exact h.slots i
  |some d=>
   rw[Go.Vc.getD_put h.size]
   simp only[Go.Dv.put]
   by_cases hd:d<n
   ·simp only[hd,if_true,dT]
    by_cases hi:i=d
    ·simp [hi,hv]
    ·simp only[hi,false_and,if_false];exact h.slots i
   ·simp only[hd,if_false,and_false];exact h.slots i
theorem oO:∀ {xs:List Operand} {vs:List Value},CSim n f a->argsV (xs.map (ev f))=some vs->xs.map a.eval=vs
 | [],vs,_,h=>by simp [argsV] at h;simp [h]
 |x::r,vs,hs,h=>by
  have hx:=bK hs x
  simp only[List.map_cons] at h ⊢
  unfold argsV at h
  split at h
  ·rename_i e;simp at e
  ·rename_i z r' e
   injection e with e1 e2
   subst e2
   rw[e1] at hx
   split at h
   ·rename_i vs' hr
    injection h with h
    subst h
    rw[oO hs hr];exact congrArg (· :: vs') hx
   ·cases h
  ·cases h
theorem bY (a:Act) (d:Option Nat) (v:Value):∀j,j ∉ d.toList->(a.put d v).tmps.getD j undef=a.tmps.getD j undef:=(iJ (β:=fun _=>none) a d v).tmps
theorem jJ {o:Oper} {s:Sem Value} (hs:CSim n f a) (hr:∀w,(execOp a.eval o).run P w=((do pure (Next.value (<-s)):Sem Next).run P w))
 (h:bR P n o.dst s (fun f' _ _=>K f' w) f [] none) (hK:∀f' a' w',CSim n f' a'->(∀j,j ∉ o.dst.toList->a'.tmps.getD j undef=a.tmps.getD j undef)->K f' w'->Ka a' w'):o.wp P a w Ka Q:=by
 obtain⟨v,hv,_,hk⟩:=h
 exact aM (v:=v) (w':=w) (by rw[hr];exact gQ (hv w)) (hK _ _ _ (hs.put o.dst (x:=.c (.v v)) rfl) (bY _ _ _) hk)
theorem zA {o:Oper} (hs:CSim n f a) (h:cOp P n o K f w) (hK:∀f' a' w',CSim n f' a'->(∀j,j ∉ o.dst.toList->a'.tmps.getD j undef=a.tmps.getD j undef)->K f' w'->Ka a' w'):o.wp P a w Ka Q:=by
 unfold cOp at h
 split at h
 ·rename_i x ho
  exact aM (v:=a.eval x) (w':=w) (by simp [execOp,ho]) (hK _ _ _ (hs.put o.dst (bK hs x)) (bY _ _ _) h)
 ·rename_i x ho
  exact aM (v:=a.eval x) (w':=w) (by simp [execOp,ho]) (hK _ _ _ (hs.put o.dst (bK hs x)) (bY _ _ _) h)
 ·rename_i op t x y pos ho
  have hx:=bK hs x
  have hy:=bK hs y
  split at h
  ·rename_i u v e1 e2
   rw[e1] at hx;rw[e2] at hy
   have hx:a.eval x=u:=hx
   have hy:a.eval y=v:=hy
   exact jJ hs (fun w'=>by simp [execOp,ho,hx,hy]) h hK
  ·exact h.elim
 ·rename_i op pos x ho
  have hx:=bK hs x
  split at h
  ·rename_i u e1
   rw[e1] at hx
   have hx:a.eval x=u:=hx
   exact jJ hs (fun w'=>by simp [execOp,ho,hx]) h hK
  ·exact h.elim
 ·rename_i s t x ho
  have hx:=bK hs x
  split at h
  ·rename_i u e1
   rw[e1] at hx
   have hx:a.eval x=u:=hx
   exact jJ hs (fun w'=>by simp [execOp,ho,hx]) h hK
  ·exact h.elim
 ·rename_i x i ho
  have hx:=bK hs x
  split at h
  ·rename_i ys e1
   rw[e1] at hx
   have hx:a.eval x = .tuple ys:=hx
   obtain⟨v,hv,hk⟩:=h
   exact aM (v:=v) (w':=w) (by simp [execOp,ho,hx,Instr.extract,hv]) (hK _ _ _ (hs.put o.dst (x:=.c (.v v)) rfl) (bY _ _ _) hk)
  ·exact h.elim
 ·rename_i T x i ho
  have hx:=bK hs x
  have hi:=bK hs i
  split at h
  ·rename_i b off ln cp kk k e sz by' e1 e2 hel
   rw[e1] at hx;rw[e2] at hi
   have hx:a.eval x=_:=hx
   have hi:a.eval i=_:=hi
   obtain⟨h0,h1,h⟩:=h
   obtain⟨hu,inf,hinf,hsz,_⟩:=Go.Vc.elemS_spec hel
   have hrun:(execOp a.eval o).run P w = .ok (.value (.pointer (some (Addr.add ⟨b,off,none⟩ (k.toNat*sz))))) w:=by
    simp [execOp,ho,Instr.indexAt,hi,asIntOf,aT hu,hx,h0,h1,sizeOf,typeInfo,hinf,hsz]
   rw[aR] at hrun
   exact aM hrun (hK _ _ _ (hs.put o.dst (x:=.c (.v _)) rfl) (bY _ _ _) h)
  ·exact h.elim
 ·rename_i T x k ho
  have hx:=bK hs x
  split at h
  ·rename_i q b off hq e1
   rw[e1] at hx
   have hx:a.eval x=_:=hx
   have:=cY hq ⟨b,off,none⟩ w
   rw[aR] at this
   exact aM (v:=.pointer (some ⟨b,off+q,none⟩)) (w':=w) (by simp only[execOp,ho,hx];exact gQ this) (hK _ _ _ (hs.put o.dst (x:=.c (.v _)) rfl) (bY _ _ _) h)
  ·exact h.elim
 ·rename_i x ho
  have hx:=bK hs x
  split at h
  ·rename_i ad e1
   rw[e1] at hx
   have hx:a.eval x=_:=hx
   exact aM (v:=.pointer (some ad)) (w':=w) (by simp [execOp,ho,hx]) (hK _ _ _ (hs.put o.dst (x:=.c (.v _)) rfl) (bY _ _ _) h)
  ·exact h.elim
 ·rename_i t x ho
  have hx:=bK hs x
  split at h
  ·rename_i b off e1
   rw[e1] at hx
   have hx:a.eval x=_:=hx
   split at h
   ·rename_i k ht
    obtain⟨vs,hl,hc,hk⟩:=h
    have hl:=bX (P:=P) (w:=w) ht (ad:=⟨b,off,none⟩) (vs:=vs) hl (fun j v hj=>by rw[aR];exact hc j v hj)
    exact aM (v:=.agg vs.toArray) (w':=w) (by simp [execOp,ho,Instr.loadAt,Instr.sureAddr,hx,hl]) (hK _ _ _ (hs.put o.dst (x:=.c (.v _)) rfl) (bY _ _ _) hk)
   ·obtain⟨ht,v,hv,hk⟩:=h
    have hl:=bW (P:=P) (w:=w) ht (ad:=⟨b,off,none⟩) (v:=v) hv
    exact aM (v:=v) (w':=w) (by simp [execOp,ho,Instr.loadAt,Instr.sureAddr,hx,hl]) (hK _ _ _ (hs.put o.dst (x:=.c (.v v)) rfl) (bY _ _ _) hk)
  ·exact h.elim
 ·rename_i t x y ho
  have hx:=bK hs x
  have hy:=bK hs y
  split at h
  ·rename_i b xs e1 e2
   rw[e1] at hx;rw[e2] at hy
   have hx:a.eval x=_:=hx
   have hy:a.eval y = .agg xs:=hy
   obtain⟨ht,⟨cur,tt,fz,hh,hlh,hlen⟩,hone,_,rfl,hk⟩:=h
   have hst:=ck P b 0 tt fz xs.toList 0 cur w hh hlh aa hone
   have e:(cur.toList.take (0+0)++xs.toList++cur.toList.drop (0+0+xs.toList.length)).toArray=xs.toList.toArray:=by
    rw[List.drop_eq_nil_of_le (by rw[hlen];simp)];simp
   rw[e] at hst
   exact dE (Go.Vc.store_run (w':=w.setRow b xs.toList.toArray) ho hx (by rw[hy,ht];simp [Value.cells,Go.Vc.sizeTS]) (by rw[ht];simp) (by rw[hy];simpa [Value.cells] using hst)) (hK _ _ _ (hs.put o.dst (x:=.c .dead) trivial) (bY _ _ _) hk)
  ·rename_i b off v _ e1 e2
   rw[e1] at hx;rw[e2] at hy
   have hx:a.eval x=_:=hx
   have hy:a.eval y=v:=hy
   obtain⟨ht,h1,hc,hf,_,rfl,hk⟩:=h
   have hsz:v.cells.size=1:=by cases v<;>first|rfl|cases h1
   have hcl:v.cells.toList=[v]:=by cases v<;>first|rfl|cases h1
   have hst:(storeCells ⟨b,off,none⟩ [v]).run P w = .ok () (w.setCell ⟨b,off,none⟩ v):=by
    have:=Go.Vc.run_storeCells_mem (P:=P) [v] ⟨b,off,none⟩ 0 w rfl (by simpa using h1) (fun j hj=>by
     obtain rfl:j=0:=by simpa using hj
     simpa [aR] using ⟨hc,hf⟩)
    simpa [Go.Vc.setCells,aR] using this
   exact dE (Go.Vc.store_run (w':=w.setCell ⟨b,off,none⟩ v) ho hx (by rw[hy,hsz,ht];rfl) (by rw[ht];simp) (by rw[hy,hcl];exact hst)) (hK _ _ _ (hs.put o.dst (x:=.c .dead) trivial) (bY _ _ _) hk)
  ·exact h.elim
 ·rename_i t ho
  split at h
  ·rename_i z hz
   obtain⟨v,hv,hc⟩:=Go.Vc.zeroC_run (fa hz).1 w
   refine aM (v:=.pointer (some ⟨w.heap.size,0,none⟩)) (w':=w.alloc (.cells z.toArray t)) ?_ (hK _ _ _ (hs.put o.dst (x:=.c (.v _)) rfl) (bY _ _ _) (h _ _ rfl rfl))
   rw[<-hc]
   simp [execOp,ho,Instr.alloc,hv,cK]
  ·exact h.elim
 ·rename_i x u v ho
  have hx:=bK hs x
  split at h
  ·rename_i t e1
   rw[e1] at hx
   have hx:a.eval x = .bool t:=hx
   cases t with
   |true=>exact aM (v:=a.eval u) (w':=w) (by simp [execOp,ho,hx,asBool]) (hK _ _ _ (hs.put o.dst (bK hs u)) (bY _ _ _) (h.1 rfl))
   |false=>exact aM (v:=a.eval v) (w':=w) (by simp [execOp,ho,hx,asBool]) (hK _ _ _ (hs.put o.dst (bK hs v)) (bY _ _ _) (h.2 rfl))
  ·exact h.elim
 ·rename_i t x ho
  have hx:=bK hs x
  split at h
  ·rename_i xs e1
   rw[e1] at hx
   have hx:a.eval x = .agg xs:=hx
   refine aM (v:=.pointer (some ⟨w.heap.size,0,none⟩)) (w':=w.alloc (.cells xs.toList.toArray t)) ?_ (hK _ _ _ (hs.put o.dst (x:=.c (.v _)) rfl) (bY _ _ _) (h _ _ rfl rfl))
   simp [execOp,ho,hx,Instr.box,cK,Value.cells]
  ·exact h.elim
 ·rename_i cc ho
  split at h
  ·rename_i g hg
   split at h
   ·rename_i gid vs e1 e2
    obtain⟨hcl,R,hR,hk⟩:=h
    have hge:a.eval g = .func (.func gid) #[] #[]:=by have:=bK hs g;rw[e1] at this;exact this
    have hargs:=oO hs e2
    have hrun:(execOp a.eval o).run P w = .ok (.enter gid vs.toArray) w:=by
     have he:cc.args.map a.eval=vs.toArray:=by rw[<-hargs,<-Array.toList_map]
     simp [execOp,ho,resolve,hg,hge,Deferred.ofValue,invoke,dP hcl,he]
    unfold Oper.wp
    rw[hrun,Oper.upon_enter]
    refine hR.mono ?_
    rintro e w' ⟨v,rfl,hv⟩
    exact hK _ _ _ (hs.put o.dst (x:=.c (.v v)) rfl) (bY _ _ _) (hk v w' hv)
   ·exact h.elim
  ·rename_i hg
   split at h
   ·rename_i ad ln cap T e1 e2
    obtain⟨hT,hk⟩:=h
    obtain⟨x,hx,hev⟩:=Go.Vc.map1 e1
    have ha:=Go.Vc.arr1 hx
    have ht:=Go.Vc.arr1 e2
    have hr:=bK hs x
    rw[hev] at hr
    have hr:a.eval x=_:=hr
    have hu:∃e,P.underlying T=some (.slice e):=by
     unfold Go.Vc.lenK at hT
     split at hT
     ·rename_i e he;exact⟨e,he⟩
     ·cases hT
     ·cases hT
    exact aM (v:=.int .i64 ln) (w':=w) (Go.Vc.len_run ho hg ha ht (.inl ⟨_,_,_,hr,rfl,hu⟩)) (hK _ _ _ (hs.put o.dst (x:=.c (.v _)) rfl) (bY _ _ _) hk)
   ·rename_i u T e1 e2
    obtain⟨hT,hk⟩:=h
    obtain⟨x,hx,hev⟩:=Go.Vc.map1 e1
    have ha:=Go.Vc.arr1 hx
    have ht:=Go.Vc.arr1 e2
    have hr:=bK hs x
    rw[hev] at hr
    have hr:a.eval x=_:=hr
    have hu:P.underlying T=some .string:=by
     unfold Go.Vc.lenK at hT
     split at hT
     ·cases hT
     ·assumption
     ·cases hT
    exact aM (v:=.int .i64 u.size) (w':=w) (Go.Vc.len_run ho hg ha ht (.inr ⟨_,hr,rfl,hu⟩)) (hK _ _ _ (hs.put o.dst (x:=.c (.v _)) rfl) (bY _ _ _) hk)
   ·exact h.elim
  ·exact h.elim
 ·exact h.elim
def Kp (ws:List Nat) (a a':Act):Prop:=∀j,j ∉ ws->a'.tmps.getD j undef=a.tmps.getD j undef
theorem Kp.refl (ws:List Nat) (a:Act):Kp ws a a:=fun _ _=>rfl
theorem Kp.trans {ws:List Nat} {a b c:Act} (h:Kp ws a b) (k:Kp ws b c):Kp ws a c:=fun j hj=>(k j hj).trans (h j hj)
theorem Kp.mono {ws us:List Nat} {a b:Act} (h:Kp ws a b) (k:∀j∈ws,j∈us):Kp us a b:=fun j hj=>h j fun e=>hj (k j e)
theorem Gg {ws:List Nat} {s:S} {y:Value} (h:Rv s y):Rv (kS ws [] s) y:=by
 cases s with
 |c x=>
  cases x with
  |fn g p q=>cases p<;>cases q<;>simp_all [Rv,kS,kC,nS]
  |_=>simp_all [Rv,kS,kC]
 |ag cs=>exact trivial
 |tu xs=>exact h.elim
def cRet (rs:List ResultVar) (R:Value->World->Prop):K1:=fun f w=>match rs with
 | [.tmp t]=>(match f t with | .c (.v x)=>R x w|_=>False)
 |_=>False
def cEnd (rs:List ResultVar) (R:Value->World->Prop):KX
 |.normal | .ret=>cRet rs R
 |_=>fun _ _=>False
def regsV:List Value->Rg
 | []=>fun _=>.c .dead
 |v::vs=>fun i=>match i with|0=>.c (.v v)|i+1=>regsV vs i
theorem oP (k:Nat):∀(vs:List Value) (i:Nat),Rv (regsV vs i) ((vs++List.replicate k undef)[i]?.getD undef)
 | [],_=>trivial
 |v::vs,0=>rfl
 |v::vs,i+1=>by simpa [regsV] using oP k vs i
end
end Go.Cv
namespace Go.Cv
open Go Go.RowKit Go.Dv
open Go.Vc (vis aJ CellF RowF ValsF D d6 Cells Chg Grow setCells aR)
theorem Gr.trans {a b c:World} (h:Gr a b) (k:Gr b c):Gr a c:=
 ⟨Nat.le_trans h.size k.size,fun i hi=>(k.keep i (Nat.lt_of_lt_of_le hi h.size)).trans (h.keep i hi),k.os.trans h.os,k.tape.trans h.tape,k.output.trans h.output⟩
theorem vis_lt {w:World} {b:Nat} (h:Go.Vc.vis w b):b<w.heap.size:=by
 obtain⟨o,ho,_⟩:=h
 exact (Array.getElem?_eq_some_iff.1 ho).1
theorem Gr.grow {w w':World} (h:Gr w w'):Grow w w':=⟨fun b hb=>h.keep b (vis_lt hb),h.os,h.tape,h.output⟩
structure ChL (F:List Nat) (w w':World):Prop where
 chg:Chg F w w'
 size:w.heap.size<=w'.heap.size
 keep:∀b,b<w.heap.size->b ∉ F->w'.heap[b]?=w.heap[b]?
theorem ChL.store {w:World} {b o:Nat} {v:Value}:ChL [b] w (w.setCell ⟨b,o,none⟩ v):=⟨Chg.store,by rw[World.size_setCell];exact Nat.le_refl _,fun x _ hx=>Go.heap_setCell_other w ⟨b,o,none⟩ x v (by simpa using hx)⟩
theorem ChL.refl (F:List Nat) (w:World):ChL F w w:=⟨Chg.refl _ _,Nat.le_refl _,fun _ _ _=>rfl⟩
theorem ChL.trans {F:List Nat} {a b c:World} (h:ChL F a b) (k:ChL F b c):ChL F a c:=
 ⟨h.chg.trans k.chg,Nat.le_trans h.size k.size,fun x hx hn=>(k.keep x (Nat.lt_of_lt_of_le hx h.size) hn).trans (h.keep x hx hn)⟩
theorem ChL.mono {F G:List Nat} {a b:World} (h:ChL F a b) (hs:∀x∈F,x∈G):ChL G a b:=⟨h.chg.mono hs,h.size,fun x hx hn=>h.keep x hx fun e=>hn (hs x e)⟩
theorem Gr.chl {a b:World} (h:Gr a b) (F:List Nat):ChL F a b:=⟨h.grow.chg F,h.size,fun x hx _=>h.keep x hx⟩
theorem Gr.chl_trans {w a b:World} {F:List Nat} (h:Gr w a) (k:ChL F a b) (hf:∀x∈F,w.heap.size<=x):Gr w b:=
 ⟨Nat.le_trans h.size k.size,fun x hx=>(k.keep x (Nat.lt_of_lt_of_le hx h.size) fun e=>by have:=hf x e;omega).trans (h.keep x hx),k.chg.os.trans h.os,k.chg.tape.trans h.tape,k.chg.output.trans h.output⟩
def OwnL (m:World) (F:List Nat):Prop:=∀b∈F,∃cs t lh,m.heap[b]?=some (.cells cs t lh)/\Lh cs.size lh
theorem OwnL.nil (m:World):OwnL m []:=fun _ h=>by cases h
theorem sS {m:World} {b:Nat} (h:∃cs t lh,m.heap[b]?=some (.cells cs t lh)/\Lh cs.size lh):vis m b:=by
 obtain⟨cs,t,lh,h,_⟩:=h;exact⟨_,h,by simp [Go.Vc.hid]⟩
theorem OwnL.vis {m:World} {F:List Nat} (h:OwnL m F):∀b∈F,Go.Vc.vis m b:=fun b hb=>sS (h b hb)
theorem OwnL.app {m:World} {F G:List Nat} (h:OwnL m F) (k:OwnL m G):OwnL m (F++G):=fun b hb=>(List.mem_append.1 hb).elim (h b) (k b)
theorem OwnL.frozen {m:World} {F:List Nat} (h:OwnL m F) {b o:Nat} (hb:b∈F) (hc:(m.cell? ⟨b,o,none⟩).isSome=true):m.frozen? ⟨b,o,none⟩=false:=by
 obtain⟨cs,t,⟨lo,hi⟩,e,hl⟩:=h _ hb
 have ho:o<cs.size:=by
  unfold World.cell? at hc
  rw[e] at hc
  simpa using hc
 have:=hl o ho
 simp only[World.frozen?,e,Bool.and_eq_false_iff,decide_eq_false_iff_not]
 simp only at this
 omega
theorem OwnL.sub {F G:List Nat} {m:World} (h:OwnL m F) (hs:∀b∈G,b∈F):OwnL m G:=fun b hb=>h b (hs b hb)
end Go.Cv
namespace Go.Cv
open Go Go.RowKit Go.Dv
open Go.Vc (vis aJ CellF RowF ValsF D d6 Cells Chg Grow aR callable)
variable [Out]
structure New (w w':World) (G:List Nat):Prop where
 nodup:G.Nodup
 new:∀b∈G,w.heap.size<=b
 own:OwnL w' G
def Res (P:Program) (w w':World) (r:S) (v:Value):Prop:=
 ∃ β ok,RelS P w' β ok (expS 9700 r) v/\(∀b,ok b -> ¬ownB (back r []) β b)/\(∀i o,Go.Dv.look (back r []) i=some o->RelO P w' β ok i o)/\(∀b,ownB (back r []) β b->w.heap.size<=b) /\
  (fps r []).flatten.Nodup/\(∀b∈(fps r []).flatten,w.heap.size<=b/\∃cs t lh,w'.heap[b]?=some (.cells cs t lh)/\Lh cs.size lh)
section
variable {P:Program} {w w':World}
theorem Cl.at {g:FuncId} {args:List S} {R:S->List (List C)->Prop} (h:Cl P g args [] R) (hp:bg (args.flatMap aO)=true) {vs:List Value}
 (hv:RelA P w (fun _=>none) (fun _=>True) args vs) (hg:GlW w (fun _=>False)) :
 callable P g=true/\Calls P g vs.toArray w fun e w'=>∃v,e = .returned v/\∃r,R r []/\Gr w w'/\Res P w w' r v:=by
 obtain⟨e1,e2⟩:=er 9500 hp
 have el:lent args []=[]:=by simp [lent,e2,dG]
 have hno:∀ β b,¬ownB [] β b:=fun β b ⟨i,o,h1,_⟩=>by simp [Go.Dv.look] at h1
 have hok:qV (fun _=>True) (lent args []) (fun _=>none)=fun _=>True:=by
  funext b
  simp [qV,el,hno]
 refine⟨h.1,(h.2 w (fun _=>none) (fun _=>True) vs ?_ ?_ ?_).mono ?_⟩
 ·rw[e1,hok];exact hv
 ·rw[el];exact⟨fun i o hl=>by simp [Go.Dv.look] at hl,fun i j o o' b hl=>by simp [Go.Dv.look] at hl⟩
 ·exact hg.mono (fun _ _ _=>rfl) fun b hb _=>by rw[el] at hb;exact (hno _ _ hb).elim
 ·rintro e W' ⟨v,r,objs,β,rfl,hR,hP⟩
  have ho:objs=[]:=List.eq_nil_of_length_eq_zero (by simpa using hP.len)
  subst ho
  refine⟨v,rfl,r,hR,⟨hP.tr.size,fun b hb=>hP.tr.keep b hb (by rw[el];exact hno _ b),hP.outer.1,hP.outer.2.1,hP.outer.2.2⟩,β,_,hP.rel,fun b hb=>hb.1,hP.obs.rel,fun b hb=>?_,hP.fresh.1,fun b hb=>?_⟩
  ·by_cases hlt:b<w.heap.size
   ·have:=hP.tr.own b hlt hb
    rw[el] at this;exact (hno _ _ this).elim
   ·omega
  ·obtain⟨h1,h2,_⟩:=hP.fresh.2 b hb
   refine⟨h1.elim id fun h=>?_,h2⟩
   rw[el] at h;exact (hno _ _ h).elim
theorem Res.val {x v:Value} (h:Res P w w' (.c (.v x)) v):v=x:=by
 obtain⟨β,ok,h,_⟩:=h
 exact h.1
theorem mH {ok:Nat->Prop} {β:Nat->Option Nat}:∀ {ds:List D} {vs:List Value},(∀d∈ds,∀x,d = .lit x->True)->RelL P w β ok (ar ds) vs->∃G,ValsF w ds vs G
 | [],[],_,_=>⟨[],rfl⟩
 | [],_::_,_,h=>h.elim
 |_::_,[],_,h=>h.elim
 |.lit x::ds,v::vs,hh,h=>by
  obtain⟨G,hG⟩:=mH (fun d hd=>hh d (by simp [hd])) h.2
  obtain⟨h1,h2⟩:=(show v=x/\d6 x from h.1)
  subst h1
  exact⟨G,[],G,⟨rfl,rfl,h2⟩,hG,by simp⟩
 |.sl n es::ds,v::vs,hh,h=>by
  obtain⟨G,hG⟩:=mH (fun d hd=>hh d (by simp [hd])) h.2
  obtain⟨H,h1,_⟩:=h.1
  exact⟨H++G,H,G,h1,hG,rfl⟩
theorem mI (b:Nat):∀ds:List D,expC b (ar ds)=ar ds
 | []=>rfl
 |d::ds=>by cases d<;>simp [ar,qq,expC,mI (b+10000) ds]
theorem Res.ag {ds:List D} {v:Value} (h:Res P w w' (.ag (ar ds)) v):∃vs G,v = .agg (vs:List Value).toArray/\ValsF w' ds vs G:=by
 obtain⟨β,ok,h,_⟩:=h
 simp only[expS,mI] at h
 obtain⟨vs,rfl,h⟩:=h
 obtain⟨G,hG⟩:=mH (fun _ _ _ _=>trivial) h
 exact⟨vs,G,rfl,hG⟩
structure Td (cs:List C) (ds:List D) (F:List (List Nat)):Prop where
 exp:∀b,expC b cs=cs
 obj:∀b,expO b cs=[]
 dat:dsOf cs=some (ds,some F)
 fp:fpL cs=F
 flat:flatL cs=true
 good:cs.all goodC=true
 kill:∀a b,kCs a b cs=cs
 frz:∀i n x,fCs i n x cs=cs
 owns:ownsC cs=none
 len:cs.length=ds.length
theorem Res.tdw {cs:List C} {ds:List D} {F:List (List Nat)} {v:Value} (ht:Td cs ds F) (h:Res P w w' (.ag cs) v):∃vs G,v = .agg (vs:List Value).toArray/\ValsF w' ds vs G/\New w w' G/\WhL w' ds vs:=by
 obtain⟨β,ok,h,hno,hobj,hnew,hnd,hfr⟩:=h
 simp only[expS,ht.exp] at h
 obtain⟨vs,rfl,h⟩:=h
 have hf:fps (.ag cs) []=F:=by simp [fps,aO,ht.fp,pn]
 rw[hf] at hnd hfr
 obtain⟨G,hG,hok,hs⟩:=jV ht.dat h
 exact⟨vs,G,rfl,hG,⟨(hs _ rfl).1.nodup hnd,fun b hb=>(hfr b ((hs _ rfl).1.mem hb)).1,fun b hb=>(hfr b ((hs _ rfl).1.mem hb)).2⟩,(hs _ rfl).2⟩
end
theorem DS {w w':World} (h:Gr w w') (hg:GlW w (fun _=>False)):GlW w' (fun _=>False):=hg.mono (fun b hb _=>h.keep b hb) fun _ h _=>h
theorem dg {w:World} {d:D} {ds:List D} {vs:List Value} {F:List Nat} (h:ValsF w (d::ds) vs F):∃v r F1 R,vs=v::r/\CellF w d v F1/\ValsF w ds r R/\F=F1++R:=by
 cases vs with
 |nil=>exact h.elim
 |cons v r=>obtain⟨F1,F2,h1,h2,h3⟩:=h;exact⟨v,r,F1,F2,rfl,h1,h2,h3⟩
theorem sT {w:World} {vs:List Value} {F:List Nat} (h:ValsF w [] vs F):vs=[]/\F=[]:=by
 cases vs with
 |nil=>exact⟨rfl,h⟩
 |cons _ _=>exact h.elim
theorem aW {w:World} {d:D} {ds:List D} {v:Value} {r:List Value} {F R:List Nat} (h:CellF w d v F) (k:ValsF w ds r R):ValsF w (d::ds) (v::r) (F++R):=⟨F,R,h,k,rfl⟩
theorem ey {w:World}:ValsF w [] [] []:=rfl
theorem cM {w:World} {v:Value} (h:d6 v):CellF w (.lit v) v []:=⟨rfl,rfl,h⟩
theorem dt {w w':World} {b:Nat} {cs:Array Value} {t:TypeId} (hb:b=w.heap.size) (hw:w'=w.alloc (.cells cs t)):w'.heap[b]?=some (.cells cs t (0,0))/\Gr w w':=by
 subst hb hw
 exact⟨Go.heap_alloc_new w _,by simp,fun x hx=>Go.heap_alloc_old w _ hx,rfl,rfl,rfl⟩
theorem bP {w:World} {b:Nat} {cs:Array Value} {t:TypeId} {lh:Nat×Nat} (h:w.heap[b]?=some (.cells cs t lh)) {j:Nat} {v:Value} (hv:cs[j]?=some v):w.cell? ⟨b,j,none⟩=some v:=by
 rw[cell_of_row w b j cs t lh h];exact hv
def ap:List D->List (List (List Nat))->List C
 |.lit v::r,Fs=>.v v::ap r Fs
 |.sl n ds::r,F::Fs=>.sl n ds (some F)::ap r Fs
 |.sl n ds::r,[]=>.sl n ds none::ap r []
 | [],_=>[]
def BP:List D->Nat->Bool
 |.lit (.slice ..)::_,_=>false
 |.lit (.agg ..)::_,_=>false
 |.lit (.tuple ..)::_,_=>false
 |.lit _::r,k=>BP r k
 |.sl .. :: r,k+1=>BP r k
 |.sl .. :: _,0=>false
 | [],k=>k==0
theorem og:∀(ds:List D) (Fs:List (List (List Nat))),BP ds Fs.length=true->Td (ap ds Fs) ds Fs.flatten
 | [],[],_=>⟨fun _=>rfl,fun _=>rfl,rfl,rfl,rfl,rfl,fun _ _=>rfl,fun _ _ _=>rfl,rfl,rfl⟩
 | [],_::_,h=>by simp [BP] at h
 |.sl n es::r,[],h=>by simp [BP] at h
 |.sl n es::r,F::Fs,h=>by
  have t:=og r Fs (by simpa [BP] using h)
  exact⟨fun b=>by simp [ap,expC,t.exp],fun b=>by simp [ap,expO,t.obj],by simp [ap,dsOf,yi,t.dat,iI],by simp [ap,fpL,tM,t.fp],by simp [ap,flatL,fW,t.flat],by simp [ap,goodC,t.good],fun a b=>by simp [ap,kCs,kC,t.kill],fun i m x=>by simp [ap,fCs,fC,t.frz],by simp [ap,ownsC,t.owns],by simp [ap,t.len]⟩
 |.lit v::r,Fs,h=>by
  have t:=og r Fs (by cases v<;>simp_all [BP])
  have hd:yi (.v v)=some (.lit v,some []):=by cases v<;>first|rfl|simp [BP] at h
  have hg:goodC (.v v)=true:=by cases v<;>first|rfl|simp [BP] at h
  exact⟨fun b=>by simp [ap,expC,t.exp],fun b=>by simp [ap,expO,t.obj],by simp [ap,dsOf,hd,t.dat,iI],by simp [ap,fpL,tM,t.fp],by simp [ap,flatL,fW,t.flat],by simp [ap,hg,t.good],fun a b=>by simp [ap,kCs,kC,t.kill],fun i m x=>by simp [ap,fCs,fC,t.frz],by simp [ap,ownsC,t.owns],by simp [ap,t.len]⟩
theorem ee {F G:List Nat} (h:∀x,F.count x<=G.count x):Sb F G:=h
end Go.Cv
set_option maxRecDepth 8000
namespace Go.Proofs.YtoegnikpokgbfaaGreatDoor
open Go Go.Dv
open Go.Vc (D cF cG cv aX)
theorem DT {α:Type} {row:α->List D} {w:Nat} {l r:List α} {x:α} (h:l=x::r) (hl:∀x,(row x).length=w+1) (C:List D->Prop):(∃ds',l.flatMap row=ds' /\ ¬ds'=[]/\C ds')=C (row x++r.flatMap row):=by
 subst h
 rw[List.flatMap_cons]
 exact propext ⟨fun ⟨_,h1,_,h3⟩=>h1▸h3,fun h=>⟨_,rfl,fun h0=>by have:=congrArg List.length h0;rw[aA,hl] at this;simp at this,h⟩⟩
theorem iG {α:Type} {row:α->List D} {w:Nat} {l:List α} {i:Nat} {x:α} (hx:l[i]?=some x) (hl:∀x,(row x).length=w+1) (C:List D->Prop):(∃ds',(l.flatMap row).drop (i*(w+1))=ds' /\ ¬ds'=[]/\C ds')=C (row x++(l.drop (i+1)).flatMap row):=by
 rw[aD hl hx]
 exact propext ⟨fun ⟨_,h1,_,h3⟩=>h1▸h3,fun h=>⟨_,rfl,fun h0=>by have:=congrArg List.length h0;rw[aA,hl] at this;simp at this,h⟩⟩
theorem Iy {p:Prop} (h:p:=by (try refine⟨by omega,?_⟩);exact ee fun x=>by (try simp only[List.count_append,List.count_nil]);omega):p:=h
theorem Di {p:Prop} (h:p:=by (try refine⟨by omega,?_⟩);exact ee fun x=>by (try simp only[List.count_append]);omega):p:=h
theorem uZ {p:Prop} (h:p:=by (try refine⟨by omega,?_⟩);exact ee fun x=>by (try simp only[List.count_nil]);omega):p:=h
theorem IP {p:Prop} (h:p:=by (try refine⟨by omega,?_⟩);exact ee fun x=>by (try simp only[List.flatten_append,List.count_append,List.count_nil]);omega):p:=h
theorem lW {p:Prop} (h:p:=by (try refine⟨by omega,?_⟩);exact ee fun x=>by (try simp only[List.flatten_append,List.count_append]);omega):p:=h
theorem Iz {p:Prop} (h:p:=by (try refine⟨by omega,?_⟩);exact ee fun x=>by (try simp only[List.flatten_append,List.flatten_cons,List.count_append]);omega):p:=h
theorem IA {p:Prop} (h:p:=by (try refine⟨by omega,?_⟩);exact ee fun x=>by (try simp only[fb]);omega):p:=h
theorem ai:type_of% @Expr.row_mk:=@Expr.row_mk
theorem bj:type_of% @Query.row_mk:=@Query.row_mk
theorem aK:type_of% @Expr.row_len:=@Expr.row_len
theorem ik:type_of% @Tok.row_len:=@Tok.row_len
end Go.Proofs.YtoegnikpokgbfaaGreatDoor
