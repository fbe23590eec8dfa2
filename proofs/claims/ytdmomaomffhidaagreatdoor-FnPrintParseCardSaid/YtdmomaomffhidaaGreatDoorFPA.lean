/-
  Words, numbers and tokens; trees.
  Conditions: none.
-/
import Derived.Test.YtdmomaomffhidaaGreatDoorFPTypes
import Derived.Shelf.Strings.BuilderF
import Derived.Shelf.LaysM
import Derived.Shelf.LaysC
import Derived.Shelf.Strconv.Itoa3
import Derived.Shelf.Strings.Split
import Derived.Shelf.Strings.Replace
import Derived.Shelf.Strconv.AtoiAll
import Derived.Test.YtdmomaomffhidaaGreatDoorProg
import Derived.Lib.UnsafeStr
import Derived.Lib.AtoiTie
set_option linter.unusedVariables false
set_option linter.unusedSimpArgs false
set_option linter.unusedSectionVars false
set_option linter.unnecessarySimpa false
set_option maxRecDepth 8000
namespace Go.Proofs.YtdmomaomffhidaaGreatDoor
open Go Go.Dv
open Go.Vc (D cU cV cF b0)
abbrev int (n:Int):D:=.lit (.int .i64 n)
abbrev bool (b:Bool):D:=.lit (.bool b)
abbrev str (s:ByteArray):D:=.lit (.string s)
abbrev vi (n:Int):S:=.c (.v (.int .i64 n))
abbrev vb (b:Bool):S:=.c (.v (.bool b))
abbrev vs (s:ByteArray):S:=.c (.v (.string s))
structure Val where
 kind:Int
 num:Int
 text:ByteArray
def Val.row (v:Val):List D:=[int v.kind,int v.num,str v.text]
structure Fa where
 code:Int
 name:ByteArray
def cN (l:Int) (s:Nat):Int:=if (s:Int)<=l then l-s else -1
def kJ (v:Val):Nat:=v.text.size
theorem gH {l:Int} {s:Nat} (h0:0<=l) : -1<=cN l s/\cN l s<=l:=by unfold cN;split<;>omega
theorem vq {l:Int} {a b:Nat} (h:0<=cN l a):cN l (a+b)=cN (cN l a) b:=by
 unfold cN at *
 split at h
 ·rename_i h1
  rw[if_pos h1]
  by_cases h2:((a+b:Nat):Int)<=l
  ·rw[if_pos h2,if_pos aa];omega
  ·rw[if_neg h2,if_neg aa]
 ·omega
theorem qD {l:Int} {a b:Nat} (h:cN l a<0) (h0:0<=l):cN l (a+b) = -1:=by
 unfold cN at *
 split at h
 ·omega
 ·exact if_neg aa
theorem kK {a b:Int} (h:a=b):vi a=vi b:=by rw[h]
theorem jt {a b:ByteArray} (h:a=b):vs a=vs b:=by rw[h]
theorem aR {a b:Bool} (h:a=b):vb a=vb b:=by rw[h]
theorem sA {α:Type} (g:α->Nat) {l:List α} {i:Nat} (h:i<l.length):((l.take (i+1)).map g).sum=((l.take i).map g).sum+g l[i]:=by
 rw[List.take_succ_eq_append_getElem h,List.map_append,List.sum_append];simp only[List.map_cons,List.map_nil,List.sum_cons,List.sum_nil,Nat.add_zero]
theorem gI {α:Type} (g:α->Nat) (l:List α) (i:Nat):∃r,(l.map g).sum=((l.take i).map g).sum+r:=⟨((l.drop i).map g).sum,by
 conv=>lhs;rw[<-List.take_append_drop i l]
 rw[List.map_append,List.sum_append]⟩
abbrev vu (b:Int):S:=.c (.v (.int .u8 b))
theorem dr (a l h:Int):Cl Tryz.prog 94 [vi a,vi l,vi h] [] fun r _=>r=vb (decide (l<=a/\a<=h)):=by
 refine ai ac false Tryz.func94 rfl ae ?_
 simp only[Tryz.f94,tt,seval]
 all_goals repeat' first|(refine ab (fun h=>?_) (fun h=>?_)<;>try simp only[tt,seval])|(intro _;try simp only[tt,seval])
 all_goals (refine⟨_,[],aR (Bool.eq_iff_iff.2 ?_),am rfl⟩)
 all_goals (simp only[decide_eq_true_eq,decide_eq_false_iff_not,Bool.false_eq_true,false_iff] at *)
 all_goals omega
theorem qE (a:Int):Cl Tryz.prog 271 [vu a] [] fun r _=>r=vb (decide (48<=a/\a<=57)):=by
 refine ai ac false Tryz.func271 rfl ae ?_
 simp only[Tryz.f271,tt,seval]
 all_goals repeat' first|(refine ab (fun h=>?_) (fun h=>?_)<;>try simp only[tt,seval])|(intro _;try simp only[tt,seval])
 all_goals (refine⟨_,[],aR (Bool.eq_iff_iff.2 ?_),am rfl⟩)
 all_goals (simp only[decide_eq_true_eq,decide_eq_false_iff_not,Bool.false_eq_true,false_iff] at *)
 all_goals omega
theorem lZ (a:Int):Cl Tryz.prog 234 [vu a] [] fun r _=>r=vb (decide (48<=a/\a<=57)):=by
 refine ai ac false Tryz.func234 rfl ae ?_
 simp only[Tryz.f234,tt,seval]
 all_goals repeat' first|(refine ab (fun h=>?_) (fun h=>?_)<;>try simp only[tt,seval])|(intro _;try simp only[tt,seval])
 all_goals (refine⟨_,[],aR (Bool.eq_iff_iff.2 ?_),am rfl⟩)
 all_goals (simp only[decide_eq_true_eq,decide_eq_false_iff_not,Bool.false_eq_true,false_iff] at *)
 all_goals omega
def mr (a:Int):Bool:=decide (97<=a/\a<=122)||decide (65<=a/\a<=90)||decide (a=95)
theorem xM (a:Int):Cl Tryz.prog 272 [vu a] [] fun r _=>r=vb (mr a):=by
 refine ai ac false Tryz.func272 rfl ae ?_
 simp only[Tryz.f272,tt,seval]
 all_goals repeat' first|(refine ab (fun h=>?_) (fun h=>?_)<;>try simp only[tt,seval])|(intro _;try simp only[tt,seval])
 all_goals (refine⟨_,[],aR (Bool.eq_iff_iff.2 ?_),am rfl⟩)
 all_goals (simp only[decide_eq_true_eq,decide_eq_false_iff_not,Bool.or_eq_true,true_iff,mr] at *)
 all_goals omega
theorem Ay (a:Int):Cl Tryz.prog 268 [vu a] [] fun r _=>r=vb (mr a):=by
 refine ai ac false Tryz.func268 rfl ae ?_
 simp only[Tryz.f268,tt,seval]
 all_goals repeat' first|(refine ab (fun h=>?_) (fun h=>?_)<;>try simp only[tt,seval])|(intro _;try simp only[tt,seval])
 all_goals (refine⟨_,[],aR (Bool.eq_iff_iff.2 ?_),am rfl⟩)
 all_goals (simp only[decide_eq_true_eq,decide_eq_false_iff_not,Bool.or_eq_true,true_iff,mr] at *)
 all_goals omega
theorem ju (s:ByteArray):Cl Tryz.prog 96 [vs s] [] fun r _=>r=vb (decide (1<=s.size/\s.size<=20)):=by
 refine ai ac false Tryz.func96 rfl ae ?_
 simp only[Tryz.f96,tt,seval]
 refine fun hs=>?_
 refine cZ (dr s.size 1 20) ?_ ?_<;>simp only[tt,seval]
 exact⟨_,_,aR (by simp only[decide_eq_decide];omega),am rfl⟩
theorem fX (s:ByteArray):Cl Tryz.prog 150 [vs s] [] fun r _=>r=vb (decide (1<=s.size/\s.size<=20)):=by
 refine ai ac false Tryz.func150 rfl ae ?_
 simp only[Tryz.f150,tt,seval]
 refine fun hs=>?_
 all_goals repeat' first|(refine ab (fun h=>?_) (fun h=>?_)<;>try simp only[tt,seval])|(intro _;try simp only[tt,seval])
 all_goals (refine⟨_,[],aR (Bool.eq_iff_iff.2 ?_),am rfl⟩)
 all_goals (simp only[decide_eq_true_eq,decide_eq_false_iff_not,Bool.false_eq_true,false_iff] at *)
 all_goals omega
theorem qF (a:Int):Cl Tryz.prog 233 [vu a] [] fun r _=>r=vb (mr a||decide (48<=a/\a<=57)):=by
 refine ai ac false Tryz.func233 rfl ae ?_
 simp only[Tryz.f233,tt,seval]
 refine cZ (Ay a) ?_ ?_<;>simp only[tt,seval]
 refine ab (fun h=>?_) (fun h=>?_)
 ·simp only[tt,seval]
  exact⟨_,_,aR (by rw[h];rfl),am rfl⟩
 ·simp only[tt,seval]
  refine cZ (lZ a) ?_ ?_<;>simp only[tt,seval]
  exact⟨_,_,aR (by rw[h];rfl),am rfl⟩
def up8 (b:UInt8):UInt8:=if 97<=b.toNat/\b.toNat<=122 then b-32 else b
def d7 (s:ByteArray):ByteArray:=⟨(s.data.toList.map up8).toArray⟩
theorem fY (l:List UInt8):(aL l).length=l.length:=by simp [aL]
theorem pw {l:List UInt8} {i:Nat} (h:i<l.length):(aL l).drop i=D.lit (.int .u8 (l[i].toNat:Int))::(aL l).drop (i+1):=by
 unfold aL
 rw[<-List.map_drop,<-List.map_drop,List.drop_eq_getElem_cons h];rfl
theorem qG {l:List UInt8} {i:Nat} {b:UInt8} (h:i<l.length):(aL l).take i++(D.lit (.int .u8 (b.toNat:Int))::(aL l).drop (i+1))=aL (l.set i b):=by
 unfold aL
 rw[List.set_eq_take_append_cons_drop,if_pos h,List.map_append,List.map_cons,List.map_take,List.map_drop]
theorem aF (s:ByteArray):s.data.toList.length=s.size:=by simp
def sS (l:List UInt8) (i:Nat):List UInt8:=(l.take i).map up8++l.drop i
theorem j4 (l:List UInt8) (i:Nat):(sS l i).length=l.length:=by rw[sS,aB,List.length_map,<-aB,List.take_append_drop]
theorem u6 {l:List UInt8} {i:Nat} (h:i<l.length):(sS l i)[i]'(by rw[j4];exact h)=l[i]:=by
 have hl:((l.take i).map up8).length=i:=by simp;omega
 have:(sS l i)[i]?=some l[i]:=by
  rw[sS,List.getElem?_append_right aa,hl,Nat.sub_self,List.drop_eq_getElem_cons h];rfl
 rw[aA (by rw[j4];exact h)] at this
 exact Option.some.inj this
theorem qH {l:List UInt8} {i:Nat} (h:i<l.length):(sS l i).set i (up8 l[i])=sS l (i+1):=by
 have hl:((l.take i).map up8).length=i:=by simp;omega
 unfold sS
 rw[List.set_append_right _ _ aa,hl,Nat.sub_self,List.drop_eq_getElem_cons h,List.set_cons_zero,List.take_succ_eq_append_getElem h,List.map_append]
 simp
theorem ny {l:List UInt8} {i:Nat} (h:i<l.length) (hu:up8 l[i]=l[i]):sS l i=sS l (i+1):=by
 rw[<-qH h,hu]
 conv=>rhs;rw[<-u6 h]
 rw[List.set_getElem_self]
theorem ze (l:List UInt8):sS l l.length=l.map up8:=by simp [sS]
theorem u7 {b:UInt8} (h:¬(97<=b.toNat/\b.toNat<=122)):up8 b=b:=if_neg h
theorem zf {b:UInt8} (h:97<=b.toNat) (h':b.toNat<=122):((up8 b).toNat:Int)=b.toNat-32:=by
 unfold up8
 rw[if_pos ⟨h,h'⟩,UInt8.toNat_sub_of_le _ _ (by rw[UInt8.le_iff_toNat_le];show 32<=_;omega)]
 show ((b.toNat-32:Nat):Int)=_
 omega
theorem BQ (s:ByteArray) (hs:s.size<=1048576):Cl Tryz.prog 190 [vs s] [] fun r _=>r=vs (d7 s):=by
 obtain⟨l,hl⟩:∃l,l=s.data.toList:=⟨_,rfl⟩
 have hll:l.length=s.size:=by rw[hl];exact aF s
 refine ai ac false Tryz.func190 rfl ae ?_
 simp only[Tryz.f190,tt,seval]
 rw[<-hl]
 refine dLoop.intro (fun f L p=>∃i:Nat,f 4=vi i/\i<=s.size/\L=[(6,.arr 5 s.size (aL (sS l i)) none)]/\p=none) (fun f _ _=>(s.size-eN (f 4)).toNat) [(6,.arr 5 s.size (aL l) none)] none ⟨al rfl (ao _),aq _,?_⟩ ?_
 ·simp only[tt,seval]
  exact⟨0,rfl,aa,by simp [sS]⟩
 ·rintro g L p ⟨i,h4,hi,rfl,rfl⟩
  simp only[tt,seval] at h4
  simp only[tt,seval,h4,Int.ofNat_lt]
  refine fun _=>ab (fun hlt=>?_) (fun hge=>?_)
  ·have hlt':i<(sS l i).length:=by rw[j4];omega
   have hd:=pw hlt'
   rw[u6 aa] at hd
   have hi0:(0:Int)<=(i:Int):=Int.natCast_nonneg i
   have hlI:(i:Int)<(s.size:Int):=by omega
   simp only[tt,seval,hd,Nat.mul_one,hlt,hi0]
   refine ab (fun h=>?_) (fun h=>?_)
   ·simp only[tt,seval,h4,hd,Nat.mul_one,hi0,hlI]
    simp only[decide_eq_true_eq] at h
    refine ab (fun h'=>?_) (fun h'=>?_)
    ·rw[aC (n:=(i:Int)+1) aa aa,IntWalk.u8_in _ ⟨aa,aa⟩,<-zf aa aa,qG hlt',qH aa]
     exact⟨by rw[fY,j4];omega,_,none,al rfl (ao _),aq _,⟨i+1,rfl,aa,rfl,rfl⟩,az⟩
    ·rw[dY i aa]
     have hsame:=ny (l:=l) (i:=i) aa (u7 fun h1=>by omega)
     exact⟨_,none,al rfl (ao _),aq _,⟨i+1,rfl,aa,congrArg (fun x=>[(6,O.arr 5 s.size (aL x) none)]) hsame,rfl⟩,az⟩
   ·simp only[tt,seval,h4,hd,Nat.mul_one,hi0,hlI]
    rw[dY i aa]
    have hsame:=ny (l:=l) (i:=i) aa (u7 fun h1=>by simp only[decide_eq_false_iff_not] at h;omega)
    exact⟨_,none,al rfl (ao _),aq _,⟨i+1,rfl,aa,congrArg (fun x=>[(6,O.arr 5 s.size (aL x) none)]) hsame,rfl⟩,az⟩
  ·have:i=s.size:=by omega
   subst this
   refine⟨ae,by simp only[maxLen];omega,sS l s.size,by rw[j4];exact hll,rfl,?_⟩
   simp only[tt,seval]
   exact⟨_,_,jt (by rw[<-hll,ze,hl];rfl),am rfl⟩
theorem qk (s:ByteArray) (hs:s.size<=1048576):Cl Tryz.prog 236 [vs s] [] fun r _=>r=vs (d7 s):=by
 obtain⟨l,hl⟩:∃l,l=s.data.toList:=⟨_,rfl⟩
 have hll:l.length=s.size:=by rw[hl];exact aF s
 refine ai ac false Tryz.func236 rfl ae ?_
 simp only[Tryz.f236,tt,seval]
 rw[<-hl]
 refine fun _=>?_
 refine dLoop.intro (fun f L p=>∃i:Nat,f 10=vi i/\i<=s.size/\L=[(7,.arr 5 s.size (aL (sS l i)) none)]/\p=none) (fun f _ _=>(s.size-eN (f 10)).toNat) [(7,.arr 5 s.size (aL l) none)] none ⟨al rfl (ao _),aq _,?_⟩ ?_
 ·simp only[tt,seval]
  exact⟨0,rfl,aa,by simp [sS]⟩
 ·rintro g L p ⟨i,h4,hi,rfl,rfl⟩
  simp only[tt,seval] at h4
  simp only[tt,seval,h4,Int.ofNat_lt]
  refine ab (fun hlt=>?_) (fun hge=>?_)
  ·have hlt':i<(sS l i).length:=by rw[j4];omega
   have hd:=pw hlt'
   rw[u6 aa] at hd
   have hi0:(0:Int)<=(i:Int):=Int.natCast_nonneg i
   have hlI:(i:Int)<(s.size:Int):=by omega
   simp only[tt,seval,hd,Nat.mul_one,hlt,hi0]
   refine ab (fun h=>?_) (fun h=>?_)
   ·simp only[tt,seval,h4,Nat.mul_one,hi0,hlI]
    simp only[decide_eq_true_eq] at h
    refine ab (fun h'=>?_) (fun h'=>?_)
    ·rw[aC (n:=(i:Int)+1) aa aa,IntWalk.u8_in ((l[i].toNat:Int)-97) ⟨aa,aa⟩,IntWalk.u8_in _ ⟨aa,aa⟩,show (l[i].toNat:Int)-97+65=l[i].toNat-32 by omega,<-zf aa aa,qG hlt',qH aa]
     exact⟨by rw[fY,j4];omega,_,none,al rfl (ao _),aq _,⟨i+1,rfl,aa,rfl,rfl⟩,az⟩
    ·rw[dY i aa]
     have hsame:=ny (l:=l) (i:=i) aa (u7 fun h1=>by omega)
     exact⟨_,none,al rfl (ao _),aq _,⟨i+1,rfl,aa,congrArg (fun x=>[(7,O.arr 5 s.size (aL x) none)]) hsame,rfl⟩,az⟩
   ·simp only[tt,seval,h4,Nat.mul_one,hi0,hlI]
    rw[dY i aa]
    have hsame:=ny (l:=l) (i:=i) aa (u7 fun h1=>by simp only[decide_eq_false_iff_not] at h;omega)
    exact⟨_,none,al rfl (ao _),aq _,⟨i+1,rfl,aa,congrArg (fun x=>[(7,O.arr 5 s.size (aL x) none)]) hsame,rfl⟩,az⟩
  ·have:i=s.size:=by omega
   subst this
   refine⟨ae,by simp only[maxLen];omega,sS l s.size,by rw[j4];exact hll,rfl,?_⟩
   simp only[tt,seval]
   exact⟨_,_,jt (by rw[<-hll,ze,hl];rfl),am rfl⟩
def srow (s:ByteArray):List D:=[str s]
theorem fx (n:ByteArray):(srow n).length=1:=rfl
theorem jZ (v:ByteArray) (r:List D):srow v++r≠[]:=fun h=>by cases h
def kws:List ByteArray:=[⟨#[83,69,76,69,67,84]⟩,⟨#[68,73,83,84,73,78,67,84]⟩,⟨#[70,82,79,77]⟩,⟨#[74,79,73,78]⟩,⟨#[79,78]⟩,⟨#[87,72,69,82,69]⟩,⟨#[79,82,68,69,82]⟩,⟨#[66,89]⟩,⟨#[65,83,67]⟩,⟨#[68,69,83,67]⟩,⟨#[76,73,77,73,84]⟩,⟨#[65,83]⟩,⟨#[65,78,68]⟩,⟨#[79,82]⟩,⟨#[78,79,84]⟩,⟨#[73,83]⟩,⟨#[73,78]⟩,⟨#[66,69,84,87,69,69,78]⟩,⟨#[69,88,73,83,84,83]⟩,⟨#[78,85,76,76]⟩,⟨#[84,82,85,69]⟩,⟨#[70,65,76,83,69]⟩,⟨#[73,78,83,69,82,84]⟩,⟨#[73,78,84,79]⟩,⟨#[86,65,76,85,69,83]⟩,⟨#[85,80,68,65,84,69]⟩,⟨#[83,69,84]⟩,⟨#[68,69,76,69,84,69]⟩]
def kM:List ByteArray:=⟨#[]⟩::kws
theorem zg:List.range 29=[0,1,2,3,4,5,6,7,8,9,10,11,12,13,14,15,16,17,18,19,20,21,22,23,24,25,26,27,28]:=rfl
theorem Gf (α:Type) (a:α):List.replicate 29 a=[a,a,a,a,a,a,a,a,a,a,a,a,a,a,a,a,a,a,a,a,a,a,a,a,a,a,a,a,a]:=rfl
theorem sT:Cl Tryz.prog 168 [] [] fun r _=>r = .c (.sl 29 (kM.flatMap srow) none):=by
 refine ai ac false Tryz.func168 rfl ae ?_
 simp only[tt,seval,Tryz.f168,zg,Gf]
 refine⟨_,[],rfl,ap ?_⟩
 simp only[tt,seval,kM,kws,srow]
theorem zh {α:Type} {l:List α} {p:α->Bool} {i:Nat} (h:i<l.length) (hp:p l[i]=true) (hn:∀j (hj:j<i),p (l[j]'(by omega))=false):l.findIdx p=i:=(List.findIdx_eq h).2 ⟨hp,hn⟩
theorem ua {α:Type} {l:List α} {p:α->Bool} (hn:∀j (hj:j<l.length),p l[j]=false):l.findIdx p=l.length:=List.findIdx_eq_length_of_false fun x hx=>by
 obtain⟨j,hj,rfl⟩:=List.mem_iff_getElem.1 hx
 exact hn j hj
def mD (f:ByteArray) (l:List ByteArray):Int:=if l.findIdx (fun w=>decide (w=f))<l.length then l.findIdx (fun w=>decide (w=f)) else -1
def key (s:ByteArray):Int:=mD (d7 s) kws+1
theorem zi (l:List ByteArray) (f:ByteArray):Cl Tryz.prog 269 [.c (.sl l.length (l.flatMap srow) none),vs f] [] fun r _=>r=vi (mD f l):=by
 refine ai ac false Tryz.func269 rfl ae ?_
 simp only[Tryz.f269,tt,seval]
 refine fun _=>?_
 refine dLoop.intro (fun f' L p=>∃i:Nat,f' 8=vi i/\i<=l.length/\(∀j (hj:j<l.length),j<i->l[j]≠f)/\L=[]/\p=none) (fun f' _ _=>(l.length-eN (f' 8)).toNat) [] none ⟨ao _,aq _,?_⟩ ?_
 ·simp only[tt,seval]
  exact⟨0,rfl,aa,fun j _ h=>absurd h (Nat.not_lt_zero _)⟩
 ·rintro g L p ⟨i,h8,hi,hn,rfl,rfl⟩
  simp only[tt,seval] at h8
  simp only[tt,seval,h8,Int.ofNat_lt]
  refine ab (fun hlt=>?_) (fun hge=>?_)
  ·refine⟨aa,aa,_,aD fx (aA hlt),jZ _ _,?_⟩
   simp only[tt,seval,h8,srow]
   refine ab (fun he=>?_) (fun he=>?_)
   ·refine⟨_,_,kK ?_,am rfl⟩
    rw[mD,zh hlt (by simp [he]) (fun j hj=>by simpa using hn j aa hj),if_pos hlt]
   ·rw[dY i aa]
    exact⟨[],none,ao _,aq _,⟨i+1,rfl,aa,fun j hj hji=>by
     by_cases e:j=i
     ·subst e;exact fun h=>he h.symm
     ·exact hn j hj aa,rfl,rfl⟩,az⟩
  ·refine⟨_,_,kK ?_,am rfl⟩
   rw[mD,ua (fun j hj=>by simpa using hn j hj aa),if_neg aa]
theorem mE (s:ByteArray):(d7 s).size=s.size:=by
 show (List.toArray _).size=_
 simp
theorem sU:∀w∈kws,w.size<=8:=by decide
theorem sV:kM.length=29:=rfl
theorem nA:kws.length=28:=rfl
theorem xN {j:Nat} (h:j+1<kM.length):kM[j+1]=kws[j]'(by simp only[sV] at h;simp only[nA];omega):=rfl
theorem vt {s:ByteArray} (h:8<s.size):key s=0:=by
 unfold key mD
 rw[ua (l:=kws) (p:=fun w=>decide (w=d7 s)) (fun j hj=>ax fun e=>by
  have:=sU _ (aJ hj)
  rw[e,mE] at this
  omega),if_neg (Nat.lt_irrefl _)]
 rfl
theorem zj (s:ByteArray) (hs:s.size<=1048576):Cl Tryz.prog 189 [vs s] [] fun r _=>r=vi (key s):=by
 refine ai ac false Tryz.func189 rfl ae ?_
 simp only[Tryz.f189,tt,seval]
 refine fun _=>ab (fun hlt=>?_) (fun hge=>?_)
 ·exact⟨_,_,kK (vt aa).symm,am rfl⟩
 ·skip
  refine cZ (BQ s hs) ?_ ?_<;>simp only[tt,seval]
  refine cZ (sT) ?_ ?_<;>simp only[tt,seval]
  refine dLoop.intro (fun f' L p=>∃i:Nat,f' 5=vi i/\1<=i/\i<=29/\(∀j (hj:j<kws.length),j+1<i->kws[j]≠d7 s)/\L=[]/\p=none) (fun f' _ _=>(29-eN (f' 5)).toNat) [] none ⟨ao _,aq _,?_⟩ ?_
  ·simp only[tt,seval]
   exact⟨1,rfl,aa,aa,fun j _ h=>absurd h aa⟩
  ·rintro g L p ⟨i,h8,hi1,hi,hn,rfl,rfl⟩
   simp only[tt,seval] at h8
   simp only[tt,seval,h8]
   refine ab (fun hlt=>?_) (fun hge=>?_)
   ·have hlt':i<kM.length:=by rw[sV];omega
    obtain⟨j,rfl⟩:∃j,i=j+1:=⟨i-1,aa⟩
    have hj:j<kws.length:=by rw[nA];omega
    refine⟨aa,aa,_,aD fx (aA hlt'),jZ _ _,?_⟩
    rw[xN hlt']
    simp only[tt,seval,h8,srow]
    refine ab (fun he=>?_) (fun he=>?_)
    ·refine⟨_,_,kK ?_,am rfl⟩
     rw[key,mD,zh hj (by simp [he]) (fun j' hj'=>by simpa using hn j' aa aa),if_pos hj]
     omega
    ·rw[aC (n:=((j+1:Nat):Int)+1) aa aa]
     exact⟨[],none,ao _,aq _,⟨j+2,rfl,aa,aa,fun j' hj' hji=>by
      by_cases e:j'=j
      ·subst e;exact he
      ·exact hn j' hj' aa,rfl,rfl⟩,az⟩
   ·refine⟨_,_,kK ?_,am rfl⟩
    rw[key,mD,ua (fun j hj=>by simpa using hn j hj (by rw[nA] at hj;omega)),if_neg aa]
    rfl
end Go.Proofs.YtdmomaomffhidaaGreatDoor
namespace Go.Proofs.YtdmomaomffhidaaGreatDoor
open Go Go.Shelf Go.Proofs
def Tryz.lays146_ren:Go.Shelf.Ren:=⟨fun|146=>178|221=>226|268=>259|138=>260|143=>232|195=>277|197=>278|218=>279|219=>267|260=>296|217=>265|225=>290|224=>291|267=>292|266=>289|314=>305|n=>n,fun|9=>9|31=>54|3=>3|4=>4|0=>0|105=>229|21=>21|5=>5|46=>202|119=>258|139=>261|138=>260|146=>255|51=>247|n=>n,fun|1=>0|3=>4|4=>5|n=>n⟩
theorem Tryz.lays146:Go.Proofs.Lays.n146 Tryz.prog Tryz.lays146_ren:={
 mixed:=by kernel_rfl
 f138:=Tryz.func260.trans (congrArg some ae)
 f143:=Tryz.func232.trans (congrArg some ae)
 f146:=Tryz.func178.trans (congrArg some ae)
 f195:=Tryz.func277.trans (congrArg some ae)
 f197:=Tryz.func278.trans (congrArg some ae)
 f217:=Tryz.func265.trans (congrArg some ae)
 f218:=Tryz.func279.trans (congrArg some ae)
 f219:=Tryz.func267.trans (congrArg some ae)
 f221:=Tryz.func226.trans (congrArg some ae)
 f224:=Tryz.func291.trans (congrArg some ae)
 f225:=Tryz.func290.trans (congrArg some ae)
 f260:=Tryz.func296.trans (congrArg some ae)
 f266:=Tryz.func289.trans (congrArg some ae)
 f267:=Tryz.func292.trans (congrArg some ae)
 f268:=Tryz.func259.trans (congrArg some ae)
 f314:=Tryz.func305.trans (congrArg some ae)
 t0:=Tryz.underlying0
 a0:=Tryz.isAgg0
 z0:=Tryz.sizeOf0
 v0:=Tryz.zeroValue0
 t3:=Tryz.underlying3
 a3:=Tryz.isAgg3
 z3:=Tryz.sizeOf3
 v3:=Tryz.zeroValue3
 t4:=Tryz.underlying4
 a4:=Tryz.isAgg4
 z4:=Tryz.sizeOf4
 v4:=Tryz.zeroValue4
 t5:=Tryz.underlying5
 a5:=Tryz.isAgg5
 z5:=Tryz.sizeOf5
 v5:=Tryz.zeroValue5
 t9:=Tryz.underlying9
 a9:=Tryz.isAgg9
 z9:=Tryz.sizeOf9
 v9:=Tryz.zeroValue9
 t21:=Tryz.underlying21
 a21:=Tryz.isAgg21
 z21:=Tryz.sizeOf21
 v21:=Tryz.zeroValue21
 t31:=Tryz.underlying54
 a31:=Tryz.isAgg54
 z31:=Tryz.sizeOf54
 v31:=Tryz.zeroValue54
 t46:=Tryz.underlying202
 a46:=Tryz.isAgg202
 z46:=Tryz.sizeOf202
 v46:=Tryz.zeroValue202
 t51:=Tryz.underlying247
 a51:=Tryz.isAgg247
 z51:=Tryz.sizeOf247
 v51:=Tryz.zeroValue247
 t105:=Tryz.underlying229
 a105:=Tryz.isAgg229
 z105:=Tryz.sizeOf229
 v105:=Tryz.zeroValue229
 t119:=Tryz.underlying258
 a119:=Tryz.isAgg258
 z119:=Tryz.sizeOf258
 t138:=Tryz.underlying260
 a138:=Tryz.isAgg260
 z138:=Tryz.sizeOf260
 v138:=Tryz.zeroValue260
 t139:=Tryz.underlying261
 a139:=Tryz.isAgg261
 z139:=Tryz.sizeOf261
 v139:=Tryz.zeroValue261
 t146:=Tryz.underlying255
 a146:=Tryz.isAgg255
 z146:=Tryz.sizeOf255
 v146:=Tryz.zeroValue255
 g1:=by kernel_rfl
 g3:=by kernel_rfl
 g4:=by kernel_rfl }
def Tryz.lays155_ren:Go.Shelf.Ren:=⟨fun|155=>293|154=>306|138=>260|165=>312|143=>232|166=>200|197=>278|169=>203|195=>277|218=>279|240=>242|241=>314|219=>267|260=>296|276=>274|277=>316|217=>265|225=>290|224=>291|267=>292|266=>289|314=>305|n=>n,fun|9=>9|3=>3|4=>4|72=>186|0=>0|76=>189|105=>229|21=>21|5=>5|70=>184|20=>20|37=>22|75=>188|127=>212|164=>226|46=>202|119=>258|139=>261|138=>260|146=>255|51=>247|80=>175|n=>n,fun|1=>0|3=>4|4=>5|n=>n⟩
theorem Tryz.lays155:Go.Proofs.Lays.n155 Tryz.prog Tryz.lays155_ren:={
 mixed:=by kernel_rfl
 f138:=Tryz.func260.trans (congrArg some ae)
 f143:=Tryz.func232.trans (congrArg some ae)
 f154:=Tryz.func306.trans (congrArg some ae)
 f155:=Tryz.func293.trans (congrArg some ae)
 f165:=Tryz.func312.trans (congrArg some ae)
 f166:=Tryz.func200.trans (congrArg some ae)
 f169:=Tryz.func203.trans (congrArg some ae)
 f195:=Tryz.func277.trans (congrArg some ae)
 f197:=Tryz.func278.trans (congrArg some ae)
 f217:=Tryz.func265.trans (congrArg some ae)
 f218:=Tryz.func279.trans (congrArg some ae)
 f219:=Tryz.func267.trans (congrArg some ae)
 f224:=Tryz.func291.trans (congrArg some ae)
 f225:=Tryz.func290.trans (congrArg some ae)
 f240:=Tryz.func242.trans (congrArg some ae)
 f241:=Tryz.func314.trans (congrArg some ae)
 f260:=Tryz.func296.trans (congrArg some ae)
 f266:=Tryz.func289.trans (congrArg some ae)
 f267:=Tryz.func292.trans (congrArg some ae)
 f276:=Tryz.func274.trans (congrArg some ae)
 f277:=Tryz.func316.trans (congrArg some ae)
 f314:=Tryz.func305.trans (congrArg some ae)
 t0:=Tryz.underlying0
 a0:=Tryz.isAgg0
 z0:=Tryz.sizeOf0
 v0:=Tryz.zeroValue0
 t3:=Tryz.underlying3
 a3:=Tryz.isAgg3
 z3:=Tryz.sizeOf3
 v3:=Tryz.zeroValue3
 t4:=Tryz.underlying4
 a4:=Tryz.isAgg4
 z4:=Tryz.sizeOf4
 v4:=Tryz.zeroValue4
 t5:=Tryz.underlying5
 a5:=Tryz.isAgg5
 z5:=Tryz.sizeOf5
 v5:=Tryz.zeroValue5
 t9:=Tryz.underlying9
 a9:=Tryz.isAgg9
 z9:=Tryz.sizeOf9
 v9:=Tryz.zeroValue9
 t20:=Tryz.underlying20
 a20:=Tryz.isAgg20
 z20:=Tryz.sizeOf20
 v20:=Tryz.zeroValue20
 t21:=Tryz.underlying21
 a21:=Tryz.isAgg21
 z21:=Tryz.sizeOf21
 v21:=Tryz.zeroValue21
 t37:=Tryz.underlying22
 a37:=Tryz.isAgg22
 z37:=Tryz.sizeOf22
 v37:=Tryz.zeroValue22
 t46:=Tryz.underlying202
 a46:=Tryz.isAgg202
 z46:=Tryz.sizeOf202
 v46:=Tryz.zeroValue202
 t51:=Tryz.underlying247
 a51:=Tryz.isAgg247
 z51:=Tryz.sizeOf247
 v51:=Tryz.zeroValue247
 t70:=Tryz.underlying184
 a70:=Tryz.isAgg184
 z70:=Tryz.sizeOf184
 v70:=Tryz.zeroValue184
 t72:=Tryz.underlying186
 a72:=Tryz.isAgg186
 z72:=Tryz.sizeOf186
 v72:=Tryz.zeroValue186
 t75:=Tryz.underlying188
 a75:=Tryz.isAgg188
 z75:=Tryz.sizeOf188
 v75:=Tryz.zeroValue188
 t76:=Tryz.underlying189
 a76:=Tryz.isAgg189
 z76:=Tryz.sizeOf189
 v76:=Tryz.zeroValue189
 t105:=Tryz.underlying229
 a105:=Tryz.isAgg229
 z105:=Tryz.sizeOf229
 v105:=Tryz.zeroValue229
 t119:=Tryz.underlying258
 a119:=Tryz.isAgg258
 z119:=Tryz.sizeOf258
 t127:=Tryz.underlying212
 a127:=Tryz.isAgg212
 z127:=Tryz.sizeOf212
 v127:=Tryz.zeroValue212
 t138:=Tryz.underlying260
 a138:=Tryz.isAgg260
 z138:=Tryz.sizeOf260
 v138:=Tryz.zeroValue260
 t139:=Tryz.underlying261
 a139:=Tryz.isAgg261
 z139:=Tryz.sizeOf261
 v139:=Tryz.zeroValue261
 t146:=Tryz.underlying255
 a146:=Tryz.isAgg255
 z146:=Tryz.sizeOf255
 v146:=Tryz.zeroValue255
 t164:=Tryz.underlying226
 a164:=Tryz.isAgg226
 z164:=Tryz.sizeOf226
 v164:=Tryz.zeroValue226
 g1:=by kernel_rfl
 g3:=by kernel_rfl
 g4:=by kernel_rfl }
theorem Tryz.Builder_Extra_155:Builder.Extra Tryz.prog Tryz.lays155_ren:={
 sizeBuilder:=by kernel_rfl
 liesBuilder:=by kernel_rfl
 t5:=Tryz.underlying5
 a5:=Tryz.isAgg5
 z5:=Tryz.sizeOf5
 v5:=Tryz.zeroValue5
 infoByte:=by kernel_rfl
 cellsByte:=by kernel_rfl
 sizeByte:=by kernel_rfl
 neB5:=by decide }
def Tryz.laysM171_ren:Go.Shelf.Ren:=⟨fun|171=>179|243=>227|246=>261|283=>280|284=>281|285=>282|286=>283|129=>298|317=>297|318=>299|319=>300|320=>301|337=>308|338=>309|n=>n,fun|3=>3|9=>9|2=>2|4=>4|171=>231|0=>0|53=>232|37=>22|5=>5|173=>235|212=>246|51=>247|20=>20|213=>248|46=>202|232=>267|233=>268|n=>n,fun|17=>1|18=>6|19=>7|n=>n⟩
theorem Tryz.laysM171:Go.Proofs.LaysM.n171 Tryz.prog Tryz.laysM171_ren:={
 mixed:=by kernel_rfl
 f129:=Tryz.func298.trans (congrArg some ae)
 f171:=Tryz.func179.trans (congrArg some ae)
 f243:=Tryz.func227.trans (congrArg some ae)
 f246:=Tryz.func261.trans (congrArg some ae)
 f283:=Tryz.func280.trans (congrArg some ae)
 f284:=Tryz.func281.trans (congrArg some ae)
 f285:=Tryz.func282.trans (congrArg some ae)
 f286:=Tryz.func283.trans (congrArg some ae)
 f317:=Tryz.func297.trans (congrArg some ae)
 f318:=Tryz.func299.trans (congrArg some ae)
 f319:=Tryz.func300.trans (congrArg some ae)
 f320:=Tryz.func301.trans (congrArg some ae)
 f337:=Tryz.func308.trans (congrArg some ae)
 f338:=Tryz.func309.trans (congrArg some ae)
 t0:=Tryz.underlying0
 a0:=Tryz.isAgg0
 z0:=Tryz.sizeOf0
 v0:=Tryz.zeroValue0
 t2:=Tryz.underlying2
 a2:=Tryz.isAgg2
 z2:=Tryz.sizeOf2
 v2:=Tryz.zeroValue2
 t3:=Tryz.underlying3
 a3:=Tryz.isAgg3
 z3:=Tryz.sizeOf3
 v3:=Tryz.zeroValue3
 t4:=Tryz.underlying4
 a4:=Tryz.isAgg4
 z4:=Tryz.sizeOf4
 v4:=Tryz.zeroValue4
 t5:=Tryz.underlying5
 a5:=Tryz.isAgg5
 z5:=Tryz.sizeOf5
 v5:=Tryz.zeroValue5
 t9:=Tryz.underlying9
 a9:=Tryz.isAgg9
 z9:=Tryz.sizeOf9
 v9:=Tryz.zeroValue9
 t20:=Tryz.underlying20
 a20:=Tryz.isAgg20
 z20:=Tryz.sizeOf20
 v20:=Tryz.zeroValue20
 t37:=Tryz.underlying22
 a37:=Tryz.isAgg22
 z37:=Tryz.sizeOf22
 v37:=Tryz.zeroValue22
 t46:=Tryz.underlying202
 a46:=Tryz.isAgg202
 z46:=Tryz.sizeOf202
 v46:=Tryz.zeroValue202
 t51:=Tryz.underlying247
 a51:=Tryz.isAgg247
 z51:=Tryz.sizeOf247
 v51:=Tryz.zeroValue247
 t53:=Tryz.underlying232
 a53:=Tryz.isAgg232
 z53:=Tryz.sizeOf232
 v53:=Tryz.zeroValue232
 t171:=Tryz.underlying231
 a171:=Tryz.isAgg231
 z171:=Tryz.sizeOf231
 v171:=Tryz.zeroValue231
 t173:=Tryz.underlying235
 a173:=Tryz.isAgg235
 z173:=Tryz.sizeOf235
 v173:=Tryz.zeroValue235
 t212:=Tryz.underlying246
 a212:=Tryz.isAgg246
 z212:=Tryz.sizeOf246
 v212:=Tryz.zeroValue246
 t213:=Tryz.underlying248
 a213:=Tryz.isAgg248
 z213:=Tryz.sizeOf248
 t232:=Tryz.underlying267
 a232:=Tryz.isAgg267
 z232:=Tryz.sizeOf267
 v232:=Tryz.zeroValue267
 t233:=Tryz.underlying268
 a233:=Tryz.isAgg268
 z233:=Tryz.sizeOf268
 v233:=Tryz.zeroValue268
 g17:=by kernel_rfl
 g18:=by kernel_rfl
 g19:=by kernel_rfl
 i0:=by kernel_rfl
 i2:=by kernel_rfl
 i3:=by kernel_rfl
 i4:=by kernel_rfl
 i5:=by kernel_rfl
 i9:=by kernel_rfl
 i20:=by kernel_rfl
 i37:=by kernel_rfl
 i46:=by kernel_rfl
 i51:=by kernel_rfl
 i53:=by kernel_rfl
 i171:=by kernel_rfl
 i173:=by kernel_rfl
 i212:=by kernel_rfl
 i232:=by kernel_rfl
 i233:=by kernel_rfl
 m17:=by kernel_rfl
 m18:=by kernel_rfl
 m19:=by kernel_rfl }
def Tryz.lays169_ren:Go.Shelf.Ren:=⟨fun|169=>203|n=>n,fun|70=>184|9=>9|0=>0|72=>186|37=>22|127=>212|3=>3|5=>5|n=>n,fun|n=>n⟩
theorem Tryz.lays169:Go.Proofs.Lays.n169 Tryz.prog Tryz.lays169_ren:={
 mixed:=by kernel_rfl
 f169:=Tryz.func203.trans (congrArg some ae)
 t0:=Tryz.underlying0
 a0:=Tryz.isAgg0
 z0:=Tryz.sizeOf0
 v0:=Tryz.zeroValue0
 t3:=Tryz.underlying3
 a3:=Tryz.isAgg3
 z3:=Tryz.sizeOf3
 v3:=Tryz.zeroValue3
 t9:=Tryz.underlying9
 a9:=Tryz.isAgg9
 z9:=Tryz.sizeOf9
 v9:=Tryz.zeroValue9
 t37:=Tryz.underlying22
 a37:=Tryz.isAgg22
 z37:=Tryz.sizeOf22
 v37:=Tryz.zeroValue22
 t70:=Tryz.underlying184
 a70:=Tryz.isAgg184
 z70:=Tryz.sizeOf184
 v70:=Tryz.zeroValue184
 t72:=Tryz.underlying186
 a72:=Tryz.isAgg186
 z72:=Tryz.sizeOf186
 v72:=Tryz.zeroValue186
 t127:=Tryz.underlying212
 a127:=Tryz.isAgg212
 z127:=Tryz.sizeOf212
 v127:=Tryz.zeroValue212 }
theorem Tryz.Builder_Extra_169:Builder.Extra Tryz.prog Tryz.lays169_ren:={
 sizeBuilder:=by kernel_rfl
 liesBuilder:=by kernel_rfl
 t5:=Tryz.underlying5
 a5:=Tryz.isAgg5
 z5:=Tryz.sizeOf5
 v5:=Tryz.zeroValue5
 infoByte:=by kernel_rfl
 cellsByte:=by kernel_rfl
 sizeByte:=by kernel_rfl
 neB5:=by decide }
def Tryz.laysC172_ren:Go.Shelf.Ren:=⟨fun|172=>229|244=>263|245=>264|247=>284|279=>285|280=>286|281=>287|282=>288|287=>302|316=>303|171=>179|205=>304|321=>310|322=>311|243=>227|246=>261|283=>280|284=>281|285=>282|286=>283|129=>298|317=>297|318=>299|319=>300|320=>301|337=>308|338=>309|n=>n,fun|9=>9|3=>3|75=>188|76=>189|4=>4|5=>5|167=>237|37=>22|0=>0|85=>238|2=>2|168=>240|53=>232|175=>250|46=>202|210=>253|127=>212|145=>266|143=>264|21=>21|171=>231|173=>235|212=>246|51=>247|20=>20|213=>248|232=>267|233=>268|80=>175|n=>n,fun|15=>2|16=>3|17=>1|18=>6|19=>7|n=>n⟩
theorem Tryz.laysC172:Go.Proofs.LaysC.n172 Tryz.prog Tryz.laysC172_ren:={
 mixed:=by kernel_rfl
 f129:=Tryz.func298.trans (congrArg some ae)
 f171:=Tryz.func179.trans (congrArg some ae)
 f172:=Tryz.func229.trans (congrArg some ae)
 f205:=Tryz.func304.trans (congrArg some ae)
 f243:=Tryz.func227.trans (congrArg some ae)
 f244:=Tryz.func263.trans (congrArg some ae)
 f245:=Tryz.func264.trans (congrArg some ae)
 f246:=Tryz.func261.trans (congrArg some ae)
 f247:=Tryz.func284.trans (congrArg some ae)
 f279:=Tryz.func285.trans (congrArg some ae)
 f280:=Tryz.func286.trans (congrArg some ae)
 f281:=Tryz.func287.trans (congrArg some ae)
 f282:=Tryz.func288.trans (congrArg some ae)
 f283:=Tryz.func280.trans (congrArg some ae)
 f284:=Tryz.func281.trans (congrArg some ae)
 f285:=Tryz.func282.trans (congrArg some ae)
 f286:=Tryz.func283.trans (congrArg some ae)
 f287:=Tryz.func302.trans (congrArg some ae)
 f316:=Tryz.func303.trans (congrArg some ae)
 f317:=Tryz.func297.trans (congrArg some ae)
 f318:=Tryz.func299.trans (congrArg some ae)
 f319:=Tryz.func300.trans (congrArg some ae)
 f320:=Tryz.func301.trans (congrArg some ae)
 f321:=Tryz.func310.trans (congrArg some ae)
 f322:=Tryz.func311.trans (congrArg some ae)
 f337:=Tryz.func308.trans (congrArg some ae)
 f338:=Tryz.func309.trans (congrArg some ae)
 t0:=Tryz.underlying0
 a0:=Tryz.isAgg0
 z0:=Tryz.sizeOf0
 v0:=Tryz.zeroValue0
 t2:=Tryz.underlying2
 a2:=Tryz.isAgg2
 z2:=Tryz.sizeOf2
 v2:=Tryz.zeroValue2
 t3:=Tryz.underlying3
 a3:=Tryz.isAgg3
 z3:=Tryz.sizeOf3
 v3:=Tryz.zeroValue3
 t4:=Tryz.underlying4
 a4:=Tryz.isAgg4
 z4:=Tryz.sizeOf4
 v4:=Tryz.zeroValue4
 t5:=Tryz.underlying5
 a5:=Tryz.isAgg5
 z5:=Tryz.sizeOf5
 v5:=Tryz.zeroValue5
 t9:=Tryz.underlying9
 a9:=Tryz.isAgg9
 z9:=Tryz.sizeOf9
 v9:=Tryz.zeroValue9
 t20:=Tryz.underlying20
 a20:=Tryz.isAgg20
 z20:=Tryz.sizeOf20
 v20:=Tryz.zeroValue20
 t21:=Tryz.underlying21
 a21:=Tryz.isAgg21
 z21:=Tryz.sizeOf21
 v21:=Tryz.zeroValue21
 t37:=Tryz.underlying22
 a37:=Tryz.isAgg22
 z37:=Tryz.sizeOf22
 v37:=Tryz.zeroValue22
 t46:=Tryz.underlying202
 a46:=Tryz.isAgg202
 z46:=Tryz.sizeOf202
 v46:=Tryz.zeroValue202
 t51:=Tryz.underlying247
 a51:=Tryz.isAgg247
 z51:=Tryz.sizeOf247
 v51:=Tryz.zeroValue247
 t53:=Tryz.underlying232
 a53:=Tryz.isAgg232
 z53:=Tryz.sizeOf232
 v53:=Tryz.zeroValue232
 t75:=Tryz.underlying188
 a75:=Tryz.isAgg188
 z75:=Tryz.sizeOf188
 v75:=Tryz.zeroValue188
 t76:=Tryz.underlying189
 a76:=Tryz.isAgg189
 z76:=Tryz.sizeOf189
 v76:=Tryz.zeroValue189
 t85:=Tryz.underlying238
 a85:=Tryz.isAgg238
 z85:=Tryz.sizeOf238
 v85:=Tryz.zeroValue238
 t127:=Tryz.underlying212
 a127:=Tryz.isAgg212
 z127:=Tryz.sizeOf212
 v127:=Tryz.zeroValue212
 t143:=Tryz.underlying264
 a143:=Tryz.isAgg264
 z143:=Tryz.sizeOf264
 v143:=Tryz.zeroValue264
 t145:=Tryz.underlying266
 a145:=Tryz.isAgg266
 z145:=Tryz.sizeOf266
 v145:=Tryz.zeroValue266
 t167:=Tryz.underlying237
 a167:=Tryz.isAgg237
 z167:=Tryz.sizeOf237
 v167:=Tryz.zeroValue237
 t168:=Tryz.underlying240
 a168:=Tryz.isAgg240
 z168:=Tryz.sizeOf240
 v168:=Tryz.zeroValue240
 t171:=Tryz.underlying231
 a171:=Tryz.isAgg231
 z171:=Tryz.sizeOf231
 v171:=Tryz.zeroValue231
 t173:=Tryz.underlying235
 a173:=Tryz.isAgg235
 z173:=Tryz.sizeOf235
 v173:=Tryz.zeroValue235
 t175:=Tryz.underlying250
 a175:=Tryz.isAgg250
 z175:=Tryz.sizeOf250
 v175:=Tryz.zeroValue250
 t210:=Tryz.underlying253
 a210:=Tryz.isAgg253
 z210:=Tryz.sizeOf253
 v210:=Tryz.zeroValue253
 t212:=Tryz.underlying246
 a212:=Tryz.isAgg246
 z212:=Tryz.sizeOf246
 v212:=Tryz.zeroValue246
 t213:=Tryz.underlying248
 a213:=Tryz.isAgg248
 z213:=Tryz.sizeOf248
 t232:=Tryz.underlying267
 a232:=Tryz.isAgg267
 z232:=Tryz.sizeOf267
 v232:=Tryz.zeroValue267
 t233:=Tryz.underlying268
 a233:=Tryz.isAgg268
 z233:=Tryz.sizeOf268
 v233:=Tryz.zeroValue268
 g15:=by kernel_rfl
 g16:=by kernel_rfl
 g17:=by kernel_rfl
 g18:=by kernel_rfl
 g19:=by kernel_rfl
 t80:=Tryz.underlying175
 a80:=Tryz.isAgg175
 z80:=Tryz.sizeOf175
 v80:=Tryz.zeroValue175
 i0:=by kernel_rfl
 i2:=by kernel_rfl
 i3:=by kernel_rfl
 i4:=by kernel_rfl
 i5:=by kernel_rfl
 i9:=by kernel_rfl
 i20:=by kernel_rfl
 i21:=by kernel_rfl
 i37:=by kernel_rfl
 i46:=by kernel_rfl
 i51:=by kernel_rfl
 i53:=by kernel_rfl
 i75:=by kernel_rfl
 i76:=by kernel_rfl
 i80:=by kernel_rfl
 i85:=by kernel_rfl
 i127:=by kernel_rfl
 i143:=by kernel_rfl
 i145:=by kernel_rfl
 i167:=by kernel_rfl
 i168:=by kernel_rfl
 i171:=by kernel_rfl
 i173:=by kernel_rfl
 i175:=by kernel_rfl
 i210:=by kernel_rfl
 i212:=by kernel_rfl
 i232:=by kernel_rfl
 i233:=by kernel_rfl
 m15:=by kernel_rfl
 m16:=by kernel_rfl
 m17:=by kernel_rfl
 m18:=by kernel_rfl
 m19:=by kernel_rfl
 c0:=by kernel_rfl
 c2:=by kernel_rfl
 c3:=by kernel_rfl
 c4:=by kernel_rfl
 c5:=by kernel_rfl
 c9:=by kernel_rfl
 c20:=by kernel_rfl
 c21:=by kernel_rfl
 c37:=by kernel_rfl
 c46:=by kernel_rfl
 c51:=by kernel_rfl
 c53:=by kernel_rfl
 c75:=by kernel_rfl
 c76:=by kernel_rfl
 c80:=by kernel_rfl
 c85:=by kernel_rfl
 c127:=by kernel_rfl
 c143:=by kernel_rfl
 c145:=by kernel_rfl
 c167:=by kernel_rfl
 c168:=by kernel_rfl
 c171:=by kernel_rfl
 c173:=by kernel_rfl
 c175:=by kernel_rfl
 c210:=by kernel_rfl
 c212:=by kernel_rfl
 c213:=by kernel_rfl
 c232:=by kernel_rfl
 c233:=by kernel_rfl }
end Go.Proofs.YtdmomaomffhidaaGreatDoor
set_option maxRecDepth 8000
namespace Go.Proofs.YtdmomaomffhidaaGreatDoor
open Go Go.Dv
open Go.Vc (D cU cV cF b0)
open Go.RowKit (Below)
theorem GT {w:World} {own:Nat->Prop} (h:GlW w own):∃ty lh,w.heap[1]?=some (.cells (Lib.pow10Tab.map fun z=>Value.int .u64 z).toArray ty lh):=by
 obtain⟨_,cs,ty,lh,h2,h3⟩:=h _ (List.mem_cons_self)
 exact⟨ty,lh,by rw[<-h3];exact h2⟩
theorem ub {w:World} {own:Nat->Prop} (h:GlW w own):∃m,w.cell? ⟨0,0,none⟩=some (.int .i64 m):=by
 obtain⟨_,cs,ty,lh,h2,m,h3⟩:=h _ (List.mem_cons_of_mem _ (List.mem_cons_self))
 exact⟨m,by simp only[World.cell?,h2];exact h3⟩
theorem xO (w:World) (k:Nat) (os:Array Obj):Below w.heap.size w (Go.Sort.grow (w.drewN k) os):=
 ⟨rfl,rfl,rfl,by simp [Go.Sort.grow,World.drewN],fun i hi=>by simp [Go.Sort.grow,World.drewN,Array.getElem?_append,hi]⟩
def dj (n:Int):ByteArray:=⟨(Lib.itoa n).toArray⟩
theorem eZ (u:Nat):∀k,u<10 ^ (k+1)->(Lib.decDigits u).length<=k+1:=by
 intro k
 induction k generalizing u with
 |zero=>intro h;rw[Lib.decDigits,dif_pos (by simpa using h)];simp
 |succ k ih=>
  intro h
  rw[Lib.decDigits]
  split
  ·simp
  ·have:=ih (u / 10) (by rw[Nat.pow_succ] at h;omega)
   simp only[aB,List.length_singleton];omega
theorem qI {n:Int} (h0 : -9223372036854775808<=n) (h1:n<=9223372036854775807):(Lib.itoa n).length<=20:=by
 unfold Lib.itoa
 split
 ·have:=eZ n.natAbs 18 aa
  simp only[List.length_cons];omega
 ·have:=eZ n.toNat 18 aa
  omega
theorem xP {n:Int} (h0 : -9223372036854775808<=n) (h1:n<=9223372036854775807):(dj n).size<=20:=by
 show (List.toArray _).size<=20
 simpa using qI h0 h1
theorem GU (n:Int) (h0 : -9223372036854775808<=n) (h1:n<=9223372036854775807):Cl Tryz.prog 179 [vi n] [] fun r _=>r=vs (dj n):=
 Cl.ofVals ae [.int .i64 n] fun w hg=>by
  obtain⟨ty,lh,hp⟩:=GT hg
  refine (Any.strconv_Itoa Tryz.laysM171 n h0 h1 w ?_).mono ?_
  ·unfold Lib.TabIs World.var?
   rw[show Tryz.prog.globalNamed _=some 1 by kernel_rfl]
   simp only[Option.bind_some,hp]
  ·rintro e w' ⟨rfl,k,os,rfl⟩
   have:=xP h0 h1
   exact⟨_,rfl,by show ByteArray.size _<=maxLen;simp only[maxLen];exact Nat.le_trans this ah,rfl,xO w k os⟩
end Go.Proofs.YtdmomaomffhidaaGreatDoor
set_option maxRecDepth 8000
namespace Go.Proofs.YtdmomaomffhidaaGreatDoor
open Go Go.Dv
open Go.Vc (D cU cV cF b0)
open Go.RowKit (Below)
open Go.Vc (CellF RowF ValsF dS)
def oL:ByteArray:=⟨#[83,69,76,69,67,84,32,68,73,83,84,73,78,67,84,32,70,82,79,77,32,74,79,73,78,32,79,78,32,87,72,69,82,69,32,79,82,68,69,82,32,66,89,32,65,83,67,32,68,69,83,67,32,76,73,77,73,84,32,65,83,32,65,78,68,32,79,82,32,78,79,84,32,73,83,32,73,78,32,66,69,84,87,69,69,78,32,69,88,73,83,84,83,32,78,85,76,76,32,84,82,85,69,32,70,65,76,83,69,32,73,78,83,69,82,84,32,73,78,84,79,32,86,65,76,85,69,83,32,85,80,68,65,84,69,32,83,69,84,32,68,69,76,69,84,69]⟩
theorem Az:Lib.splitB ⟨#[32]⟩ 0 (Lib.countB oL ⟨#[32]⟩) oL=kws:=by decide +kernel
theorem AA:Lib.countB oL ⟨#[32]⟩=27:=by decide +kernel
theorem sW (w:World):∀l:List ByteArray,(∀s∈l,s.size<=maxLen)->ValsF w (l.flatMap srow) (l.map Value.string) []
 | [],_=>rfl
 |s::r,h=>⟨[],[],⟨rfl,rfl,h s (by simp)⟩,sW w r fun x hx=>h x (by simp [hx]),rfl⟩
theorem sX (w w':World) (ty:TypeId) (l:List ByteArray) (hl:l≠[]) (hs:∀s∈l,s.size<=maxLen) (hn:l.length<=maxLen) (β:Nat->Option Nat) (hw:w'.heap[w.heap.size]?=some (.cells (l.map Value.string).toArray ty (0,0))) :
 RelS Tryz.prog w' β (fun b=>w.heap.size<=b) (.c (.sl l.length (l.flatMap srow) none)) (.slice (some ⟨w.heap.size,0,none⟩) l.length l.length):=by
 have hrow:RowF w' w.heap.size 0 (l.flatMap srow) []:=(sW w' l hs).row fun j v hj=>by
  rw[cell_of_row w' w.heap.size (0+j) _ _ _ hw];simpa using hj
 refine⟨[w.heap.size],⟨some ⟨w.heap.size,0,none⟩,l.length,rfl,Nat.le_refl _,hn,(fun e=>by cases e),.inr ⟨?_,w.heap.size,0,[],rfl,hrow,rfl⟩⟩,(fun b hb=>by simp at hb;omega),(fun _ e=>by cases e)⟩
 cases l with
 |nil=>exact absurd rfl hl
 |cons s r=>simp [srow]
theorem Eg:Cl Tryz.prog 178 [vs oL,vs ⟨#[32]⟩] [] fun r _=>r = .c (.sl 28 (kws.flatMap srow) none):=
 Cl.ofNew ae [.string oL,.string ⟨#[32]⟩] fun w hg=>by
  obtain⟨m,hm⟩:=ub hg
  refine (Any.strings_Split Tryz.lays146 ae oL ⟨#[32]⟩ m w ah hm ah).mono ?_
  rintro e w' ⟨rfl,rfl⟩
  rw[Az,AA]
  refine⟨_,_,rfl,rfl,by rfl,fun β=>sX w _ _ kws ah (fun s hs=>Nat.le_trans (sU s hs) ah) ah β (Go.heap_alloc_new w _),⟨rfl,rfl,rfl,by simp,fun i hi=>Go.heap_alloc_old w _ hi⟩⟩
theorem xQ:Cl Tryz.prog 270 [] [] fun r _=>r = .c (.sl 28 (kws.flatMap srow) none):=by
 refine ai ac false Tryz.func270 rfl ae ?_
 simp only[tt,seval,Tryz.f270]
 refine iQ Eg ?_ ?_ ?_
 ·decide
 ·simp only[tt,seval]
  rfl
 rintro r rfl
 simp only[tt,seval]
 exact⟨_,_,rfl,am rfl⟩
theorem nB (s:ByteArray) (hs:s.size<=1048576):Cl Tryz.prog 235 [vs s] [] fun r _=>r=vi (key s):=by
 refine ai ac false Tryz.func235 rfl ae ?_
 simp only[Tryz.f235,tt,seval]
 refine cZ (xQ) ?_ ?_<;>simp only[tt,seval]
 refine cZ (qk s hs) ?_ ?_<;>simp only[tt,seval]
 refine cZ (zi kws (d7 s)) ?_ ?_<;>simp only[tt,seval,nA]
 have h1 : -1<=mD (d7 s) kws/\mD (d7 s) kws<=28:=by
  unfold mD
  have:=nA
  split<;>omega
 rw[aC (n:=mD (d7 s) kws+1) aa aa]
 exact⟨_,_,rfl,am rfl⟩
end Go.Proofs.YtdmomaomffhidaaGreatDoor
set_option maxRecDepth 8000
namespace Go.Proofs.YtdmomaomffhidaaGreatDoor
open Go Go.Dv
open Go.Vc (D cU cV cF b0)
def kZ (b:Int):Bool:=mr b||decide (48<=b/\b<=57)
def dK (s:ByteArray):Bool:=decide (1<=s.size/\s.size<=20)&&(!decide (48<=((s.data.toList.headD 0).toNat:Int)/\((s.data.toList.headD 0).toNat:Int)<=57)&&(decide (key s=0)&&s.data.toList.all fun b=>kZ b.toNat))
theorem fQ {n:Nat} {d:Option Nat} {K:K0} {f:Rg} {L:Ob} {p:Po} {k:IntKind} {s:ByteArray} {i:Nat} {l:List UInt8} (hl:l=s.data.toList) (hi:i<l.length) :
 bP Tryz.prog n d (Instr.index 9 (.string s) (.int k (i:Int))) K f L p=K (put n f d (.c (.v (.int .u8 (l[i].toNat:Int))))) L p:=by
 subst hl
 have hi':i<s.size:=by rw[<-aF];exact hi
 rw[D2 ae aa aa]
 congr 6
theorem l4 {n:Nat} {d:Option Nat} {K:K0} {f:Rg} {L:Ob} {p:Po} {k:IntKind} {s:ByteArray} {l:List UInt8} (hl:l=s.data.toList) (hi:0<l.length) :
 bP Tryz.prog n d (Instr.index 9 (.string s) (.int k 0)) K f L p=K (put n f d (.c (.v (.int .u8 (l[0].toNat:Int))))) L p:=fQ (i:=0) hl hi
theorem uc (s:ByteArray):0<=key s:=by unfold key mD;split<;>omega
theorem l5 (s:ByteArray) (hs:s.size<=1048576):Cl Tryz.prog 239 [vs s] [] fun r _=>r=vb (dK s):=by
 obtain⟨l,hl⟩:∃l,l=s.data.toList:=⟨_,rfl⟩
 have hll:l.length=s.size:=by rw[hl];exact aF s
 refine ai ac false Tryz.func239 rfl ae ?_
 simp only[Tryz.f239,tt,seval]
 refine cZ (ju s) ?_ ?_<;>simp only[tt,seval]
 cases hN:decide (1<=s.size/\s.size<=20) with
 |false=>
  simp only[tt,seval]
  exact⟨_,_,aR (by rw[dK,hN];rfl),am rfl⟩
 |true=>
  have hN':=of_decide_eq_true hN
  have hp:(0:Int)<(s.size:Int):=by omega
  have hlp:0<l.length:=by omega
  simp only[tt,seval]
  rw[l4 hl aa]
  simp only[tt,seval]
  refine cZ (qE l[0].toNat) ?_ ?_<;>simp only[tt,seval]
  have hh:s.data.toList.headD 0=l[0]:=by rw[<-hl];cases l with|nil=>exact absurd hlp (Nat.lt_irrefl _)|cons x r=>rfl
  cases hF:decide ((48:Int)<=(l[0].toNat:Int)/\(l[0].toNat:Int)<=57) with
  |true=>
   simp only[tt,seval]
   exact⟨_,_,aR (by rw[dK,hN,hh,hF];rfl),am rfl⟩
  |false=>
   simp only[tt,seval]
   refine cZ (zj s hs) ?_ ?_<;>simp only[tt,seval]
   have hk:=uc s
   refine ab (fun h=>?_) (fun h=>?_)
   ·exact⟨_,_,aR (by rw[dK,hN,hh,hF,ax (show ¬key s=0 by omega)];rfl),am rfl⟩
   ·have hpn:dK s=l.all fun b=>kZ b.toNat:=by rw[dK,hN,hh,hF,aw (show key s=0 by omega),<-hl];rfl
    rw[hpn]
    refine dLoop.intro (fun f' L p=>∃i:Nat,f' 3=vi i/\i<=s.size/\(∀j (hj:j<l.length),j<i->kZ l[j].toNat=true)/\L=[]/\p=none) (fun f' _ _=>(s.size-eN (f' 3)).toNat) [] none ⟨ao _,aq _,?_⟩ ?_
    ·simp only[tt,seval]
     exact⟨0,rfl,aa,fun j _ h=>absurd h (Nat.not_lt_zero _)⟩
    ·rintro g L p ⟨i,h3,hi,hn,rfl,rfl⟩
     simp only[tt,seval] at h3
     simp only[tt,seval,h3,Int.ofNat_lt]
     refine fun _=>ab (fun hlt=>?_) (fun hge=>?_)
     ·have hil:i<l.length:=by omega
      rw[fQ hl hil]
      simp only[tt,seval]
      refine cZ (xM l[i].toNat) ?_ ?_<;>simp only[tt,seval]
      cases hL:mr l[i].toNat with
      |true=>
       simp only[tt,seval,h3]
       rw[dY i aa]
       exact⟨[],none,ao _,aq _,⟨i+1,rfl,aa,fun j hj hji=>by
        by_cases e:j=i
        ·subst e;rw[kZ,hL];rfl
        ·exact hn j hj aa,rfl,rfl⟩,az⟩
      |false=>
       simp only[tt,seval,h3]
       rw[fQ hl hil]
       simp only[tt,seval]
       refine cZ (qE l[i].toNat) ?_ ?_<;>simp only[tt,seval,h3]
       refine ab (fun h=>?_) (fun h=>?_)
       ·simp only[Bool.not_eq_true',decide_eq_false_iff_not] at h
        refine⟨_,_,aR ?_,am rfl⟩
        refine (Bool.eq_false_iff.2 fun e=>?_).symm
        have:=List.all_eq_true.1 e _ (aJ hil)
        rw[kZ,hL,Bool.false_or,decide_eq_true_eq] at this
        exact h this
       ·simp only[Bool.not_eq_false',decide_eq_true_eq] at h
        rw[dY i aa]
        exact⟨[],none,ao _,aq _,⟨i+1,rfl,aa,fun j hj hji=>by
         by_cases e:j=i
         ·subst e;rw[kZ,hL,Bool.false_or,decide_eq_true_eq];omega
         ·exact hn j hj aa,rfl,rfl⟩,az⟩
     ·refine⟨_,_,aR ?_,am rfl⟩
      refine (List.all_eq_true.2 fun x hx=>?_).symm
      obtain⟨j,hj,rfl⟩:=List.mem_iff_getElem.1 hx
      exact hn j hj aa
theorem kc (s:ByteArray) (hs:s.size<=1048576):Cl Tryz.prog 245 [vs s] [] fun r _=>r=vb (dK s):=by
 obtain⟨l,hl⟩:∃l,l=s.data.toList:=⟨_,rfl⟩
 have hll:l.length=s.size:=by rw[hl];exact aF s
 refine ai ac false Tryz.func245 rfl ae ?_
 simp only[Tryz.f245,tt,seval]
 refine cZ (fX s) ?_ ?_<;>simp only[tt,seval]
 cases hN:decide (1<=s.size/\s.size<=20) with
 |false=>
  simp only[tt,seval]
  exact⟨_,_,aR (by rw[dK,hN];rfl),am rfl⟩
 |true=>
  have hN':=of_decide_eq_true hN
  have hp:(0:Int)<(s.size:Int):=by omega
  have hlp:0<l.length:=by omega
  simp only[tt,seval]
  rw[l4 hl aa]
  simp only[tt,seval]
  refine cZ (lZ l[0].toNat) ?_ ?_<;>simp only[tt,seval]
  have hh:s.data.toList.headD 0=l[0]:=by rw[<-hl];cases l with|nil=>exact absurd hlp (Nat.lt_irrefl _)|cons x r=>rfl
  have hsp:0<s.size:=by omega
  cases hF:decide ((48:Int)<=(l[0].toNat:Int)/\(l[0].toNat:Int)<=57) with
  |true=>
   simp only[tt,seval]
   exact⟨_,_,aR (by rw[dK,hN,hh,hF];rfl),am rfl⟩
  |false=>
   simp only[tt,seval]
   refine cZ (nB s hs) ?_ ?_<;>simp only[tt,seval]
   have hk:=uc s
   refine ab (fun h=>?_) (fun h=>?_)
   ·exact⟨_,_,aR (by rw[dK,hN,hh,hF,ax (show ¬key s=0 from by simpa using h)];rfl),am rfl⟩
   ·have hpn:dK s=l.all fun b=>kZ b.toNat:=by rw[dK,hN,hh,hF,aw (show key s=0 from by simpa using h),<-hl];rfl
    rw[hpn]
    refine fun _=>?_
    refine dLoop.intro (fun f' L p=>∃i:Nat,f' 19=vi i/\i<=s.size/\(∀j (hj:j<l.length),j<i->kZ l[j].toNat=true)/\L=[]/\p=none) (fun f' _ _=>(s.size-eN (f' 19)).toNat) [] none ⟨ao _,aq _,?_⟩ ?_
    ·simp only[tt,seval]
     exact⟨0,rfl,aa,fun j _ h=>absurd h (Nat.not_lt_zero _)⟩
    ·rintro g L p ⟨i,h3,hi,hn,rfl,rfl⟩
     simp only[tt,seval] at h3
     simp only[tt,seval,h3,Int.ofNat_lt]
     refine ab (fun hlt=>?_) (fun hge=>?_)
     ·have hil:i<l.length:=by omega
      rw[fQ hl hil]
      simp only[tt,seval]
      refine cZ (qF l[i].toNat) ?_ ?_<;>simp only[tt,seval,h3]
      refine ab (fun h=>?_) (fun h=>?_)
      ·refine⟨_,_,aR ?_,am rfl⟩
       refine (Bool.eq_false_iff.2 fun e=>?_).symm
       have:=List.all_eq_true.1 e _ (aJ hil)
       rw[kZ] at this
       rw[this] at h;cases h
      ·rw[dY i aa]
       exact⟨[],none,ao _,aq _,⟨i+1,rfl,aa,fun j hj hji=>by
        by_cases e:j=i
        ·subst e;rw[kZ];simpa only[Bool.not_eq_false'] using h
        ·exact hn j hj aa,rfl,rfl⟩,az⟩
     ·refine⟨_,_,aR ?_,am rfl⟩
      refine (List.all_eq_true.2 fun x hx=>?_).symm
      obtain⟨j,hj,rfl⟩:=List.mem_iff_getElem.1 hx
      exact hn j hj aa
def bN (c:UInt8) (l:List UInt8):List UInt8:=l.flatMap fun b=>if b=c then [c,c] else [b]
def ke (c:UInt8) (s:ByteArray):ByteArray:=⟨(c::(bN c s.data.toList++[c])).toArray⟩
theorem kf (c:UInt8) (l:List UInt8):(bN c l).length<=2*l.length:=by
 induction l with
 |nil=>simp [bN]
 |cons b r ih=>
  unfold bN at *
  rw[List.flatMap_cons,aB,List.length_cons]
  split<;>simp only[List.length_cons,List.length_nil]<;>omega
theorem px {c:UInt8} {l:List UInt8} {i:Nat} (h:i<l.length):bN c (l.take (i+1))=bN c (l.take i)++(if l[i]=c then [c,c] else [l[i]]):=by
 unfold bN
 rw[List.take_succ_eq_append_getElem h,List.flatMap_append,List.flatMap_cons,List.flatMap_nil,List.append_nil]
theorem fh (l:List UInt8) (b:UInt8):aL l++[D.lit (.int .u8 (b.toNat:Int))]=aL (l++[b]):=by simp [aL]
theorem sY (s:ByteArray) (c:UInt8) (hs:s.size<=1048576):Cl Tryz.prog 240 [vs s,vu (c.toNat:Int)] [] fun r _=>r=vs (ke c s):=by
 obtain⟨l,hl⟩:∃l,l=s.data.toList:=⟨_,rfl⟩
 have hll:l.length=s.size:=by rw[hl];exact aF s
 refine ai ac false Tryz.func240 rfl ae ?_
 simp only[Tryz.f240,tt,seval]
 refine dLoop.gh [.ren 8 29] ⟨ah,ah,?_⟩
 refine dLoop0.intro (fun f L p=>∃(i:Nat) (bs:List UInt8),f 6=vi i/\f 5 = .c (.s 29 bs.length)/\i<=s.size/\bs=c::bN c (l.take i)/\L=[(29,.arr 5 bs.length (aL bs) none)]/\p=none) (fun f _ _=>(s.size-eN (f 6)).toNat) [(29,.arr 5 1 (aL [c]) none)] none ⟨al rfl (ao _),aq _,?_⟩ ?_
 ·simp only[tt,seval]
  exact⟨0,[c],rfl,rfl,aa,rfl,rfl⟩
 ·rintro g L p ⟨i,bs,h6,h5,hi,hbs,rfl,rfl⟩
  simp only[tt,seval] at h6 h5
  have hbl:bs.length<=1+2*i:=by
   have:=kf c (l.take i)
   rw[hbs,List.length_cons]
   rw[List.length_take] at this;omega
  simp only[tt,seval,h6,h5,Int.ofNat_lt]
  refine fun _=>ab (fun hlt=>?_) (fun hge=>?_)
  ·have hil:i<l.length:=by omega
   rw[fQ hl hil]
   simp only[tt,seval,h6,h5]
   refine ab (fun heq=>?_) (fun hne=>?_)
   ·have hc:l[i]=c:=UInt8.toNat_inj.1 aa
    refine qj ?_
    rw[fQ hl hil,fh]
    simp only[tt,seval,h6]
    refine qj ?_
    rw[fh,aC (n:=(i:Int)+1) aa aa]
    refine⟨[(29,.arr 5 (bs++[c]++[l[i]]).length (aL (bs++[c]++[l[i]])) none)],none,al (by simp [Go.Dv.look,Nat.add_assoc]) (ao _),aq _,⟨i+1,bs++[c]++[l[i]],rfl,by simp,aa,?_,rfl,rfl⟩,az⟩
    rw[px hil,if_pos hc,hbs,hc];simp
   ·have hc:¬l[i]=c:=fun e=>hne (by rw[e])
    rw[fQ hl hil]
    simp only[tt,seval,h6]
    refine qj ?_
    rw[fh,aC (n:=(i:Int)+1) aa aa]
    refine⟨[(29,.arr 5 (bs++[l[i]]).length (aL (bs++[l[i]])) none)],none,al (by simp [Go.Dv.look]) (ao _),aq _,⟨i+1,bs++[l[i]],rfl,by simp,aa,?_,rfl,rfl⟩,az⟩
    rw[px hil,if_neg hc,hbs];simp
  ·have:i=s.size:=by omega
   subst this
   refine qj ?_
   rw[fh]
   refine⟨ae,by simp only[maxLen];omega,bs++[c],by simp,rfl,?_⟩
   simp only[tt,seval]
   refine⟨_,_,jt ?_,am rfl⟩
   rw[hbs,<-hll,List.take_length,hl];rfl
end Go.Proofs.YtdmomaomffhidaaGreatDoor
set_option maxRecDepth 8000
namespace Go.Proofs.YtdmomaomffhidaaGreatDoor
open Go Go.Dv
open Go.Vc (D cU cV cF b0)
open Go.RowKit (Below)
open Go.Vc (dS)
theorem l6 (c:UInt8):∀l:List UInt8,c ∉ l->Lib.index l [c] = -1
 | [],_=>rfl
 |b::l,h=>by
  simp only[List.mem_cons,not_or] at h
  have ih:=l6 c l h.2
  have hb:([c]:List UInt8).isPrefixOf (b::l)=false:=by simp [List.isPrefixOf,h.1]
  simp [Lib.index,hb,ih]
theorem sZ (c:UInt8):∀a r:List UInt8,c ∉ a->Lib.index (a++c::r) [c]=a.length
 | [],r,_=>by simp [Lib.index,List.isPrefixOf]
 |b::a,r,h=>by
  simp only[List.mem_cons,not_or] at h
  have ih:=sZ c a r h.2
  have hb:([c]:List UInt8).isPrefixOf (b::(a++c::r))=false:=by simp [List.isPrefixOf,h.1]
  have hne:¬((a.length:Int) = -1):=by omega
  simp [Lib.index,hb,ih,hne]
theorem l8 {c:UInt8}:∀ {l:List UInt8},c ∉ l->bN c l=l
 | [],_=>rfl
 |b::l,h=>by
  simp only[List.mem_cons,not_or] at h
  have ih:=l8 h.2
  unfold bN at *
  rw[List.flatMap_cons,ih,if_neg (fun e=>h.1 e.symm)];rfl
theorem ud (c:UInt8):∀(n:Nat) (l:List UInt8),l.length<=n->Lib.replaceK [c] [c,c] (Lib.count l [c]) l=bN c l:=by
 intro n
 induction n with
 |zero=>
  intro l h
  have:l=[]:=List.eq_nil_of_length_eq_zero aa
  subst this
  rw[Lib.count_miss (l6 c [] (by simp))];rfl
 |succ n ih=>
  intro l h
  by_cases hc:c∈l
  ·obtain⟨a,r,rfl,ha⟩:=List.eq_append_cons_of_mem hc
   have hi:=sZ c a r ha
   have hdrop:(a++c::r).drop (a.length+[c].length)=r:=by
    rw[show a++c::r=(a++[c])++r by simp,List.drop_left' (by simp)]
   rw[Lib.count_hit (by simp) hi,Nat.add_comm,Lib.replaceK_hit _ _ _ _ _ hi,hdrop,ih r (by simp at h;omega),List.take_left' rfl]
   unfold bN
   rw[List.flatMap_append,List.flatMap_cons,if_pos rfl]
   have:=l8 ha
   unfold bN at this
   rw[this];simp
  ·rw[Lib.count_miss (l6 c l hc),l8 hc];rfl
theorem qJ (c:UInt8) (l:List UInt8):Lib.replaceAll l [c] [c,c]=bN c l:=by
 have hne:([c]==[c,c])=false:=by simp
 unfold Lib.replaceAll Lib.replace Lib.replaceNum
 rw[hne,if_neg (by simp),if_pos (by simp)]
 exact ud c l.length l (Nat.le_refl _)
theorem data_append (a b:ByteArray):(a++b).data.toList=a.data.toList++b.data.toList:=by rw[ByteArray.data_append,Array.toList_append]
def one (c:UInt8):ByteArray:=⟨#[c]⟩
theorem vw (c:UInt8):(one c++one c).data.toList=[c,c]:=by rw[data_append];rfl
theorem ue (s:ByteArray) (c:UInt8) (hs:s.size<=1048576):Cl Tryz.prog 293 [vs s,vs (one c),vs (one c++one c)] [] fun r _=>r=vs ⟨(bN c s.data.toList).toArray⟩:=
 Cl.ofVals ae [.string s,.string (one c),.string (one c++one c)] fun w hg=>by
  obtain⟨m,hm⟩:=ub hg
  have h2:(one c++one c).size=2:=by rw[<-aF,vw];rfl
  have hcnt:Lib.countB s (one c)<=s.size:=Lib.countB_le (one c) (Nat.le_refl 1) s.size s (Nat.le_refl _)
  refine (Any.strings_ReplaceAll Tryz.lays155 Tryz.Builder_Extra_155 s (one c) (one c++one c) m w aa hm (Nat.le_refl 1) (by rw[h2];omega)).mono ?_
  rintro e w' ⟨rfl,hb⟩
  rw[vw,show (one c).data.toList=[c] from rfl,qJ]
  refine⟨_,rfl,?_,rfl,hb⟩
  show (List.toArray _).size<=maxLen
  have:=kf c s.data.toList
  rw[aF] at this
  simp only[List.size_toArray,maxLen];omega
theorem mF {a b:ByteArray} (h:a.data.toList=b.data.toList):a=b:=by
 obtain⟨⟨x⟩⟩:=a;obtain⟨⟨y⟩⟩:=b
 simp only at h;rw[h]
theorem BR (a b:ByteArray):(a++b).size=a.size+b.size:=by rw[<-aF,data_append,aB,aF,aF]
theorem vz (s:ByteArray) (c:UInt8) (hs:s.size<=1048576):Cl Tryz.prog 275 [vs s,vs (one c)] [] fun r _=>r=vs (ke c s):=by
 have h1:(one c).size=1:=rfl
 refine ai ac false Tryz.func275 rfl ae ?_
 simp only[Tryz.f275,tt,seval]
 rw[il aa]
 refine cZ (ue s c hs) ?_ ?_<;>simp only[tt,seval]
 have hq:(⟨(bN c s.data.toList).toArray⟩:ByteArray).size<=2*s.size:=by
  have:=kf c s.data.toList
  rw[aF] at this
  show (List.toArray _).size<=_
  simpa using this
 rw[il aa]
 simp only[tt,seval]
 rw[il (by rw[BR];omega)]
 simp only[tt,seval]
 exact⟨_,_,jt (mF (by rw[data_append,data_append];simp [one,ke])),am rfl⟩
def j5 (s:ByteArray):ByteArray:=if 1<=s.size/\s.size<=20 then (if dK s=true then s else ke 34 s) else ⟨#[]⟩
theorem vA (s:ByteArray) (hs:s.size<=1048576):Cl Tryz.prog 196 [vs s] [] fun r _=>r=vs (ke 39 s):=by
 refine ai ac false Tryz.func196 rfl ae ?_
 simp only[Tryz.f196,tt,seval]
 refine cZ (sY s 39 hs) ?_ ?_<;>simp only[tt,seval]
 exact⟨_,_,rfl,am rfl⟩
theorem nC (s:ByteArray) (hs:s.size<=1048576):Cl Tryz.prog 244 [vs s] [] fun r _=>r=vs (ke 39 s):=by
 refine ai ac false Tryz.func244 rfl ae ?_
 simp only[Tryz.f244,tt,seval]
 refine cZ (vz s 39 hs) ?_ ?_<;>simp only[tt,seval,one]
 exact⟨_,_,rfl,am rfl⟩
theorem xR (s:ByteArray) (hs:s.size<=1048576):Cl Tryz.prog 195 [vs s] [] fun r _=>r=vs (j5 s):=by
 refine ai ac false Tryz.func195 rfl ae ?_
 simp only[Tryz.f195,tt,seval]
 refine cZ (ju s) ?_ ?_<;>simp only[tt,seval]
 refine ab (fun h=>?_) (fun h=>?_)
 ·exact⟨_,_,jt (by rw[j5,if_neg (by simpa only[Bool.not_eq_true',decide_eq_false_iff_not] using h)]),am rfl⟩
 ·skip
  refine cZ (l5 s hs) ?_ ?_<;>simp only[tt,seval]
  have h':1<=s.size/\s.size<=20:=by simpa only[Bool.not_eq_false',decide_eq_true_eq] using h
  refine ab (fun hp=>?_) (fun hp=>?_)
  ·exact⟨_,_,jt (by rw[j5,if_pos h',if_pos hp]),am rfl⟩
  ·skip
   refine cZ (sY s 34 hs) ?_ ?_<;>simp only[tt,seval]
   exact⟨_,_,jt (by rw[j5,if_pos h',if_neg (by rw[hp];simp)]),am rfl⟩
theorem vB (s:ByteArray) (hs:s.size<=1048576):Cl Tryz.prog 243 [vs s] [] fun r _=>r=vs (j5 s):=by
 refine ai ac false Tryz.func243 rfl ae ?_
 simp only[Tryz.f243,tt,seval]
 refine cZ (fX s) ?_ ?_<;>simp only[tt,seval]
 refine ab (fun h=>?_) (fun h=>?_)
 ·exact⟨_,_,jt (by rw[j5,if_neg (by simpa only[Bool.not_eq_true',decide_eq_false_iff_not] using h)]),am rfl⟩
 ·skip
  refine cZ (kc s hs) ?_ ?_<;>simp only[tt,seval]
  have h':1<=s.size/\s.size<=20:=by simpa only[Bool.not_eq_false',decide_eq_true_eq] using h
  refine ab (fun hp=>?_) (fun hp=>?_)
  ·exact⟨_,_,jt (by rw[j5,if_pos h',if_pos hp]),am rfl⟩
  ·skip
   refine cZ (vz s 34 hs) ?_ ?_<;>simp only[tt,seval,one]
   exact⟨_,_,jt (by rw[j5,if_pos h',if_neg (by rw[hp];simp)]),am rfl⟩
end Go.Proofs.YtdmomaomffhidaaGreatDoor
set_option maxRecDepth 8000
namespace Go.Proofs.YtdmomaomffhidaaGreatDoor
open Go Go.Dv
open Go.Vc (D cU cV cF b0)
def dz (v:Val):Bool:=
 if v.kind=0 then decide (v.num=0)&&decide (v.text=⟨#[]⟩) else if v.kind=1 then decide (v.text=⟨#[]⟩)
 else if v.kind=2 then decide (v.num=0)&&decide ((v.text.size:Int)<=200) else if v.kind=3 then decide (0<=v.num/\v.num<=1)&&decide (v.text=⟨#[]⟩) else false
theorem AB (v:Val):Cl Tryz.prog 262 [.ag (ar v.row)] [] fun r _=>r=vb (dz v):=by
 rw[Val.row]
 refine ai ac false Tryz.func262 rfl ae ?_
 simp only[Tryz.f262,tt,seval]
 refine ab (fun h0=>?_) (fun h0=>?_)
 ·refine ab (fun h=>?_) (fun h=>?_)<;>simp only[tt,seval]
  ·exact⟨_,_,aR (by rw[dz,if_pos h0,h];rfl),am rfl⟩
  ·exact⟨_,_,aR (by rw[dz,if_pos h0,h];rfl),am rfl⟩
 ·try simp only[tt,seval]
  refine ab (fun h1=>?_) (fun h1=>?_)
  ·exact⟨_,_,aR (by rw[dz,if_neg h0,if_pos h1]),am rfl⟩
  ·try simp only[tt,seval]
   refine ab (fun h2=>?_) (fun h2=>?_)
   ·refine ab (fun h=>?_) (fun h=>?_)<;>simp only[tt,seval]
    ·exact fun _=>⟨_,_,aR (by rw[dz,if_neg h0,if_neg h1,if_pos h2,h];rfl),am rfl⟩
    ·exact⟨_,_,aR (by rw[dz,if_neg h0,if_neg h1,if_pos h2,h];rfl),am rfl⟩
   ·try simp only[tt,seval]
    refine ab (fun h3=>?_) (fun h3=>?_)
    ·try simp only[tt,seval]
     refine cZ (dr v.num 0 1) ?_ ?_<;>simp only[tt,seval]
     cases hn:decide ((0:Int)<=v.num/\v.num<=1)<;>simp only[tt,seval]
     ·exact⟨_,_,aR (by rw[dz,if_neg h0,if_neg h1,if_neg h2,if_pos h3,hn];rfl),am rfl⟩
     ·exact⟨_,_,aR (by rw[dz,if_neg h0,if_neg h1,if_neg h2,if_pos h3,hn];rfl),am rfl⟩
    ·exact⟨_,_,aR (by rw[dz,if_neg h0,if_neg h1,if_neg h2,if_neg h3]),am rfl⟩
theorem qK (v:Val):Cl Tryz.prog 251 [.ag (ar v.row)] [] fun r _=>r=vb (dz v):=by
 rw[Val.row]
 refine ai ac false Tryz.func251 rfl ae ?_
 simp only[Tryz.f251,tt,seval]
 refine ab (fun h0=>?_) (fun h0=>?_)
 ·refine ab (fun h=>?_) (fun h=>?_)<;>simp only[tt,seval]
  ·exact⟨_,_,aR (by rw[dz,if_pos h0,h];rfl),am rfl⟩
  ·exact⟨_,_,aR (by rw[dz,if_pos h0,h];rfl),am rfl⟩
 ·try simp only[tt,seval]
  refine ab (fun h1=>?_) (fun h1=>?_)
  ·exact⟨_,_,aR (by rw[dz,if_neg h0,if_pos h1]),am rfl⟩
  ·try simp only[tt,seval]
   refine ab (fun h2=>?_) (fun h2=>?_)
   ·refine ab (fun h=>?_) (fun h=>?_)<;>simp only[tt,seval]
    ·exact fun _=>⟨_,_,aR (by rw[dz,if_neg h0,if_neg h1,if_pos h2,h];rfl),am rfl⟩
    ·exact⟨_,_,aR (by rw[dz,if_neg h0,if_neg h1,if_pos h2,h];rfl),am rfl⟩
   ·try simp only[tt,seval]
    refine ab (fun h3=>?_) (fun h3=>?_)
    ·have fin:∀b:Bool,decide ((0:Int)<=v.num/\v.num<=1)=b->dz v=(b&&decide (v.text=⟨#[]⟩)):=fun b hb=>by rw[dz,if_neg h0,if_neg h1,if_neg h2,if_pos h3,hb]
     by_cases hz:v.num=0
     ·simp only[tt,seval,aw hz]
      exact⟨_,_,aR (by rw[fin true (aw aa)];rfl),am rfl⟩
     ·simp only[tt,seval,ax hz]
      by_cases ho:v.num=1
      ·simp only[tt,seval,aw ho]
       exact⟨_,_,aR (by rw[fin true (aw aa)];rfl),am rfl⟩
      ·simp only[tt,seval,ax ho]
       exact⟨_,_,aR (by rw[fin false (ax aa)];rfl),am rfl⟩
    ·exact⟨_,_,aR (by rw[dz,if_neg h0,if_neg h1,if_neg h2,if_neg h3]),am rfl⟩
def qL (v:Val):ByteArray:=
 if dz v=false then ⟨#[63]⟩ else if v.kind=1 then dj v.num else if v.kind=2 then ke 39 v.text else if v.kind=3 then (if v.num=1 then ⟨#[84,82,85,69]⟩ else ⟨#[70,65,76,83,69]⟩) else ⟨#[78,85,76,76]⟩
theorem m6 (n:Int) (h0 : -9223372036854775808<=n) (h1:n<=9223372036854775807):Cl Tryz.prog 93 [vi n] [] fun r _=>r=vs (dj n):=by
 refine ai ac false Tryz.func93 rfl ae ?_
 simp only[Tryz.f93,tt,seval]
 refine cZ (GU n h0 h1) ?_ ?_<;>simp only[tt,seval]
 exact⟨_,_,rfl,am rfl⟩
def sg (b:Bool) (k:Nat):Int:=if b=true then -(k:Int) else k
theorem GV (b:Bool) (k:Nat):(sg b k).tmod 10=sg b (k % 10):=by
 unfold sg;split
 ·rw[Int.neg_tmod];rfl
 ·rfl
theorem BS (b:Bool) (k:Nat):(sg b k).tdiv 10=sg b (k / 10):=by
 unfold sg;split
 ·rw[Int.neg_tdiv];rfl
 ·rfl
theorem zk (b:Bool) (k:Nat):sg b k=0↔k=0:=by unfold sg;split<;>omega
def oM (k:Nat):UInt8:=UInt8.ofNat (48+k % 10)
theorem BT (k:Nat):((oM k).toNat:Int)=48+(k % 10:Nat):=by
 unfold oM
 rw[UInt8.toNat_ofNat']
 omega
theorem la {k:Nat} (h:k / 10≠0):Lib.decDigits k=Lib.decDigits (k / 10)++[oM k]:=by
 rw[Lib.decDigits,dif_neg aa];rfl
theorem kN {k:Nat} (h:k / 10=0):Lib.decDigits k=[oM k]:=by
 have:k % 10=k:=by omega
 rw[Lib.decDigits,dif_pos aa,oM,this]
theorem qM (n:Int) (h0 : -9223372036854775808<=n) (h1:n<=9223372036854775807):Cl Tryz.prog 119 [vi n] [] fun r _=>r=vs (dj n):=by
 obtain⟨b,hb⟩:∃b,b=decide (n<0):=⟨_,rfl⟩
 refine ai ac false Tryz.func119 rfl ae ?_
 simp only[Tryz.f119,tt,seval]
 refine ab (fun hz=>?_) (fun hz=>?_)
 ·subst hz
  exact⟨_,_,jt (show (⟨#[48]⟩:ByteArray)=dj 0 by unfold dj Lib.itoa;rw[if_neg aa,Lib.decDigits,dif_pos ah];rfl),am rfl⟩
 ·rw[<-hb]
  refine dLoop.intro (fun f L p=>∃(k:Nat) (o:List UInt8),f 0=vi (sg b k)/\f 4=vs ⟨o.toArray⟩/\k<=n.natAbs/\Lib.decDigits n.natAbs=(if k=0 then o else Lib.decDigits k++o)/\L=[]/\p=none) (fun f _ _=>(eN (f 0)).natAbs) [] none ⟨ao _,aq _,?_⟩ ?_
  ·simp only[tt,seval]
   refine⟨n.natAbs,[],kK ?_,rfl,Nat.le_refl _,?_⟩
   ·rw[sg,hb];simp only[decide_eq_true_eq];split<;>omega
   ·rw[if_neg aa,List.append_nil]
  ·rintro g L p ⟨k,o,hk,ho,hkn,hd,rfl,rfl⟩
   simp only[tt,seval] at hk ho
   have hol:o.length<=20:=by
    have h2:=qI h0 h1
    have h3:(Lib.decDigits n.natAbs).length<=20:=eZ n.natAbs 19 aa
    rw[hd] at h3
    split at h3
    ·exact h3
    ·rw[aB] at h3;omega
   simp only[tt,seval,hk,ho,GV]
   refine ab (fun hne=>?_) (fun heq=>?_)
   ·have hk0:k≠0:=by
     simp only[Bool.not_eq_true',decide_eq_false_iff_not,zk] at hne;exact hne
    have hdv:=BT k
    refine ab (fun hneg=>?_) (fun hpos=>?_)
    ·have hs:sg b (k % 10) = -((k % 10:Nat):Int):=by
      unfold sg at hneg ⊢
      split at hneg
      ·rename_i h;rw[if_pos h]
      ·omega
     have hval:IntKind.u8.wrap (IntKind.i64.wrap (48+IntKind.i64.wrap (0-sg b (k % 10))))=((oM k).toNat:Int):=by
      rw[hs,aC (n:=0 - -((k % 10:Nat):Int)) aa aa,aC aa aa,IntWalk.u8_in _ aa,hdv];omega
     refine⟨ae,ah,[oM k],rfl,by rw[hval];rfl,?_⟩
     simp only[tt,seval,ho]
     have hsz:(⟨[oM k].toArray⟩:ByteArray).size+(⟨o.toArray⟩:ByteArray).size=1+o.length:=by show (List.toArray _).size+(List.toArray _).size=_;simp
     rw[il (by rw[hsz];omega)]
     simp only[tt,seval,hk,BS]
     rw[aC (n:=sg b (k / 10)) (by rw[sg];split<;>omega) (by rw[sg];split<;>omega)]
     refine⟨[],none,ao _,aq _,⟨k / 10,oM k::o,rfl,jt (mF (by rw[data_append];simp)),aa,?_,rfl,rfl⟩,?_⟩
     ·rw[hd,if_neg hk0]
      split
      ·rename_i h;rw[kN h];rfl
      ·rename_i h;rw[la h];simp
     ·simp only[eN,sg];split<;>omega
    ·have hs:sg b (k % 10)=((k % 10:Nat):Int):=by
      unfold sg at hpos ⊢
      split at hpos
      ·rename_i h;rw[if_pos h];omega
      ·rename_i h;rw[if_neg h]
     have hval:IntKind.u8.wrap (IntKind.i64.wrap (48+sg b (k % 10)))=((oM k).toNat:Int):=by
      rw[hs,aC aa aa,IntWalk.u8_in _ aa,hdv]
     refine⟨ae,ah,[oM k],rfl,by rw[hval];rfl,?_⟩
     simp only[tt,seval,ho]
     have hsz:(⟨[oM k].toArray⟩:ByteArray).size+(⟨o.toArray⟩:ByteArray).size=1+o.length:=by show (List.toArray _).size+(List.toArray _).size=_;simp
     rw[il (by rw[hsz];omega)]
     simp only[tt,seval,hk,BS]
     rw[aC (n:=sg b (k / 10)) (by rw[sg];split<;>omega) (by rw[sg];split<;>omega)]
     refine⟨[],none,ao _,aq _,⟨k / 10,oM k::o,rfl,jt (mF (by rw[data_append];simp)),aa,?_,rfl,rfl⟩,?_⟩
     ·rw[hd,if_neg hk0]
      split
      ·rename_i h;rw[kN h];rfl
      ·rename_i h;rw[la h];simp
     ·simp only[eN,sg];split<;>omega
   ·have hk0:k=0:=by
     simp only[Bool.not_eq_false',decide_eq_true_eq,zk] at heq;exact heq
    subst hk0
    rw[if_pos rfl] at hd
    refine ab (fun hb1=>?_) (fun hb0=>?_)
    ·have hn:n<0:=by rw[hb] at hb1;exact of_decide_eq_true hb1
     have hsz:(⟨#[45]⟩:ByteArray).size+(⟨o.toArray⟩:ByteArray).size=1+o.length:=by show 1+(List.toArray _).size=_;simp
     rw[il (by rw[hsz];omega)]
     simp only[tt,seval]
     exact⟨_,_,jt (mF (by rw[data_append];simp [dj,Lib.itoa,hn,hd])),am rfl⟩
    ·have hn:¬n<0:=by rw[hb] at hb0;exact of_decide_eq_false hb0
     have e:n.toNat=n.natAbs:=by omega
     exact⟨_,_,jt (mF (by simp [dj,Lib.itoa,hn,e,hd])),am rfl⟩
theorem uf (v:Val) (h0 : -9223372036854775808<=v.num) (h1:v.num<=9223372036854775807) (hs:v.text.size<=1048576):Cl Tryz.prog 211 [.ag (ar v.row)] [] fun r _=>r=vs (qL v):=by
 rw[Val.row]
 refine ai ac false Tryz.func211 rfl ae ?_
 simp only[Tryz.f211,tt,seval]
 refine cZ (qK v) ?_ ?_<;>simp only[tt,seval,Val.row]
 refine ab (fun hk=>?_) (fun hk=>?_)
 ·exact⟨_,_,jt (by rw[qL,if_pos (by simpa only[Bool.not_eq_true'] using hk)]),am rfl⟩
 ·have hk':¬dz v=false:=by simpa only[Bool.not_eq_false',Bool.not_eq_false] using hk
  refine ab (fun k1=>?_) (fun k1=>?_)
  ·skip
   refine cZ (m6 v.num h0 h1) ?_ ?_<;>simp only[tt,seval]
   exact⟨_,_,jt (by rw[qL,if_neg hk',if_pos k1]),am rfl⟩
  ·try simp only[tt,seval]
   refine ab (fun k2=>?_) (fun k2=>?_)
   ·skip
    refine cZ (nC v.text hs) ?_ ?_<;>simp only[tt,seval]
    exact⟨_,_,jt (by rw[qL,if_neg hk',if_neg k1,if_pos k2]),am rfl⟩
   ·try simp only[tt,seval]
    refine ab (fun k3=>?_) (fun k3=>?_)
    ·try simp only[tt,seval]
     refine ab (fun k4=>?_) (fun k4=>?_)
     ·exact⟨_,_,jt (by rw[qL,if_neg hk',if_neg k1,if_neg k2,if_pos k3,if_pos k4]),am rfl⟩
     ·exact⟨_,_,jt (by rw[qL,if_neg hk',if_neg k1,if_neg k2,if_pos k3,if_neg k4]),am rfl⟩
    ·exact⟨_,_,jt (by rw[qL,if_neg hk',if_neg k1,if_neg k2,if_neg k3]),am rfl⟩
theorem iC (a b:List UInt8):aL a++aL b=aL (a++b):=by simp [aL]
end Go.Proofs.YtdmomaomffhidaaGreatDoor
set_option maxRecDepth 8000
namespace Go.Proofs.YtdmomaomffhidaaGreatDoor
open Go Go.Dv
open Go.Vc (D cU cV cF b0)
open Go.RowKit (Below)
open Go.Vc (CellF RowF ValsF dS vis)
theorem Eh {w:World} {ok0:Nat->Prop} {L:Ob} {β:Nat->Option Nat} {b:Nat} (h:sr ok0 L β b):okR w ok0 L β L β b:=⟨h.1,fun _=>.inl h.2⟩
theorem vC (w:World) (b:Nat) (p v:Value) (lh:Nat×Nat) (hb:w.heap[b]?=some (.cells #[p,v] 186 lh)) (hlh:Lh 2 lh) (hp:p = .pointer none∨p = .pointer (some ⟨b,0,none⟩)) :
 Calls Tryz.prog 242 #[.pointer (some ⟨b,0,none⟩)] w fun e w'=>e = .returned (.tuple #[])/\∃p',(p' = .pointer none∨p' = .pointer (some ⟨b,0,none⟩))/\w'=w.setRow b #[p',v]:=by
 have hc:w.cell? ⟨b,0,none⟩=some p:=by simp [World.cell?,hb]
 have hself:w.setRow b #[p,v]=w:=setRow_self w b _ _ _ hb
 rcases hp with rfl|rfl
 ·have hsh:w.shape? b=some (186,2):=by simp [World.shape?,hb]
  have hfz:w.frozen? ⟨b,0,none⟩=false:=by
   have:=hlh 0 ah
   obtain⟨lo,hi⟩:=lh
   simp only[World.frozen?,hb,Bool.and_eq_false_iff,decide_eq_false_iff_not]
   simp only at this;omega
  refine (Any.Builder_copyCheck_fresh { Tryz.lays155 with } Tryz.Builder_Extra_155.toX72 b w hc hsh hfz).mono ?_
  rintro e w' ⟨rfl,rfl⟩
  exact⟨rfl,_,.inr rfl,by rw[setCell_eq_setRow w b 0 _ _ _ _ hb];rfl⟩
 ·refine (Any.Builder_copyCheck_used { Tryz.lays155 with } Tryz.Builder_Extra_155.toX72 b w hc).mono ?_
  rintro e w' ⟨rfl,rfl⟩
  exact⟨rfl,_,.inr rfl,hself.symm⟩
theorem vD (x:C) (hx:fV x=true) (hf:vp x=[]) (hx1:x ≠ .self):Cl Tryz.prog 242 [.c (.p 9000 0)] [[.self,x]] fun r os=>r = .tu []/\os=[[.self,x]]:=by
 refine⟨ae,fun w β ok0 vs ha ho hg=>?_⟩
 have hL:lent [.c (.p 9000 0)] [[.self,x]]=eI 0 [[.self,x]]:=rfl
 have hB:back (.tu []) [[.self,x]]=eI 0 [[.self,x]]:=rfl
 generalize hLL:eI 0 [[C.self,x]]=L at hL hB
 rw[hL] at ha ho hg ⊢
 have hlk:Go.Dv.look L 9000=some (.str (expC 9200 [.self,x])):=by rw[<-hLL];rfl
 cases vs with
 |nil=>exact ha.elim
 |cons v0 r=>
  cases r with
  |cons _ _=>exact ha.2.elim
  |nil=>
   obtain⟨b,hb,rfl⟩:=ha.1
   obtain⟨b',cells,ty,lh,hb',hc,hlh,hsf,hrel⟩:=ho.rel 9000 _ hlk
   have:b'=b:=by rw[hb] at hb';injection hb' with e;exact e.symm
   subst this
   obtain⟨rfl,hp⟩:=hsf 0 rfl
   obtain⟨p,v,hcl⟩:∃p v,cells = #[p,v]:=by
    have:=hrel.length
    have h2:cells.toList.length=2:=by rw[<-this];rfl
    match hq:cells.toList,h2 with
    | [p,v],_=>exact⟨p,v,by rw[<-Array.toArray_toList (xs:=cells),hq]⟩
   subst hcl
   have how:ownB L β b':=⟨9000,_,hlk,hb⟩
   refine (vC w b' p v lh hc (by simpa using hlh) (by simpa using hp)).mono ?_
   rintro e w' ⟨rfl,p',hp',rfl⟩
   have hoth:∀y,y≠b'->(w.setRow b' #[p',v]).heap[y]?=w.heap[y]?:=fun y hy=>setRow_other w b' y _ hy
   have hnew:=setRow_heap w b' #[p,v] #[p',v] 186 _ hc
   have hcells:∀(y:Nat) cs2 ty2 lh2,w.heap[y]?=some (.cells cs2 ty2 lh2)->∃cs3 lh3,(w.setRow b' #[p',v]).heap[y]?=some (.cells cs3 ty2 lh3)/\cs3.size=cs2.size:=fun y cs2 ty2 lh2 hy=>by
    by_cases e:y=b'
    ·subst e
     rw[hc] at hy;injection hy with hy;injection hy with e1 e2 e3
     subst e1 e2 e3
     exact⟨_,_,hnew,rfl⟩
    ·exact⟨cs2,lh2,(hoth y e).trans hy,rfl⟩
   have hst:Stab w (w.setRow b' #[p',v]) (sr ok0 L β) (okR w ok0 L β L β):=⟨fun y _ hy=>⟨hoth y fun e=>hy.1 (e▸how),Eh hy⟩,hcells⟩
   refine⟨_,.tu [],[[.self,x]],β,rfl,⟨rfl,rfl⟩,?_⟩
   refine⟨⟨[],rfl,trivial⟩,?_,fun _ _=>rfl,rfl,?_,by simp [Wd],⟨rfl,rfl,rfl⟩,?_,?_⟩
   ·rw[hB]
    refine⟨fun i o hl=>?_,ho.inj⟩
    by_cases hi:i=9000
    ·subst hi
     rw[hlk] at hl;injection hl with hl;subst hl
     have hr:=RelL.st hst hrel
     refine⟨b',#[p',v],186,lh,hb,hnew,by simpa using hlh,fun k hk=>?_,?_⟩
     ·refine⟨rfl,?_⟩
      match k,hk with
      |0,_=>simpa using hp'
      |1,hk=>
       have:=pe hk
       simp at this
       exact absurd this hx1
     ·refine⟨?_,hr.2⟩
      rcases hp' with h|h
      ·exact .inl h
      ·exact .inr ⟨b',h⟩
    ·refine (ho.rel i o hl).st hst fun y hy=>hoth y fun e=>?_
     subst e
     exact hi (ho.inj i 9000 o _ y hl hlk hy hb)
   ·rw[hB]
    exact⟨by simp,fun y _ hn=>hoth y fun e=>hn (e▸how),fun y _ h=>h,hcells⟩
   ·have:fps (.tu []) [[.self,x]]=[]:=by show []++(([]++(vp x++[]))++[])=[];rw[hf];rfl
    rw[this];exact⟨List.nodup_nil,fun y hy=>by cases hy⟩
   ·have h1:flatL [C.self,x]=true:=by show (true&&(fV x&&true))=true;rw[hx];rfl
    show (true&&true&&((flatL [C.self,x]&&true)&&true)&&true)=true
    rw[h1];rfl
theorem gC (bs:List UInt8) (s:ByteArray) (h:bs.length+s.size<=100000000):Cl Tryz.prog 200 [.c (.p 9000 0),vs s] [[.self,.ow 5 bs.length (aL bs) none]] fun r os=>r = .tu [([.v (.int .i64 s.size)],true),([.v .nilIface],true)]/\os=[[.self,.ow 5 (bs.length+s.size) (aL (bs++s.data.toList)) none]]:=by
 refine ai ac false Tryz.func200 rfl ae ?_
 simp only[Tryz.f200,tt,seval]
 refine cS (vD (.ow 5 bs.length (aL bs) none) rfl rfl (fun e=>by cases e)) ?_ ?_<;>simp only[tt,seval]
 refine⟨ae,by rw[fY,aF,Nat.mul_one],⟨by simp only[maxLen];omega,aa⟩,fun _=>?_⟩
 rw[iC]
 refine⟨_,_,⟨rfl,rfl⟩,ap ?_⟩
 simp only[tt,seval]
end Go.Proofs.YtdmomaomffhidaaGreatDoor
namespace Go.Proofs.YtdmomaomffhidaaGreatDoor
open Go Go.Shelf Go.RowKit Go.Proofs
section
variable {P:Program} {ρ:Ren}
structure But (g:Option Nat) (w w':World):Prop where
 size:w.heap.size<=w'.heap.size
 keep:∀x,x<w.heap.size->g≠some x->w'.heap[x]?=w.heap[x]?
 cells:∀x,g=some x->∀cs t lh,w.heap[x]?=some (.cells cs t lh)->∃lh',w'.heap[x]?=some (.cells cs t lh')
 os:w'.os=w.os
 tape:w'.tape=w.tape
 output:w'.output=w.output
theorem But.drew (g:Option Nat) (w:World):But g w w.drew:=⟨Nat.le_refl _,fun _ _ _=>rfl,fun _ _ _ _ lh h=>⟨lh,h⟩,rfl,rfl,rfl⟩
theorem But.alloc {g:Option Nat} {w w':World} (h:But g w w') (o:Obj):But g w (w'.alloc o) where
 size:=by have:=h.size;simp;omega
 keep:=fun x hx hg=>(Go.heap_alloc_old w' o (Nat.lt_of_lt_of_le hx h.size)).trans (h.keep x hx hg)
 cells:=fun x hg cs t lh hc=>by
  obtain⟨lh',h1⟩:=h.cells x hg cs t lh hc
  exact⟨lh',(Go.heap_alloc_old w' o (Array.getElem?_eq_some_iff.1 h1).1).trans h1⟩
 os:=h.os
 tape:=h.tape
 output:=h.output
theorem But.freeze {w w':World} (g n:Nat) (h:But (some g) w w'):But (some g) w (w'.freeze ⟨g,0,none⟩ n):=by
 unfold World.freeze
 split
 ·exact h
 ·refine⟨by simpa using h.size,fun x hx hg=>?_,fun x hg cs t lh hc=>?_,h.os,h.tape,h.output⟩
  ·have:¬g=x:=fun e=>hg (by rw[e])
   simp only[Array.getElem?_modify,if_neg this];exact h.keep x hx hg
  ·obtain⟨lh',h1⟩:=h.cells x hg cs t lh hc
   injection hg with hg;subst hg
   simp only[Array.getElem?_modify,if_true,h1,Option.map_some]
   exact⟨_,rfl⟩
set_option maxHeartbeats 1000000 in
set_option maxRecDepth 100000 in
theorem vE (L:Lays.n169 P ρ) (X:Builder.Extra P ρ) (b g cap:Nat) (p:Value) (cur:Array Value) (fz:Nat×Nat) (l:List UInt8) (w:World) (h0:l≠[]) (hbk:w.heap[b]?=some (.cells #[p,.slice (some ⟨g,0,none⟩) l.length cap] (ρ.t 72) fz))
 (hg:∃fg,w.heap[g]?=some (.cells cur (ρ.t 5) fg)) (hnc:l.length<=cap) (hcm:cap<=maxLen) (hcs:cap<=cur.size) (htake:∀(j:Nat) (x:UInt8),l[j]?=some x->cur.toList[j]?=some (Value.int .u8 (x.toNat:Int))) :
 Calls P (ρ.f 169) #[.pointer (some ⟨b,0,none⟩)] w fun e w'=>e = .returned (.string ⟨l.toArray⟩)/\But (some g) w w':=by
 obtain⟨fg,hg⟩:=hg
 have hl0:l.length≠0:=by simpa using h0
 have c1:w.drew.cell? ⟨b,1,none⟩=some (.slice (some ⟨g,0,none⟩) l.length cap):=by
  have:w.drew.heap[b]?=some (.cells #[p,.slice (some ⟨g,0,none⟩) l.length cap] (ρ.t 72) fz):=hbk
  rw[Lib.cell_of_heap this];rfl
 have hSD:(Builtin.unsafeSliceData_ #[(ρ.t 37)] (ρ.t 127) #[.slice (some ⟨g,0,none⟩) l.length cap]).run P w.drew = .ok (.pointer (some ⟨g,0,none⟩)) w.drew:=
  Lib.run_unsafeSliceData_row _ _ _ _ _ _ aa
 have hUS:(Builtin.unsafeString_ #[(ρ.t 127),(ρ.t 3)] (ρ.t 9) #[.pointer (some ⟨g,0,none⟩),.int .i64 l.length]).run P w.drew = .ok (.string ⟨l.toArray⟩) (w.drew.freeze ⟨g,0,none⟩ l.length):=by
  refine Lib.run_unsafeString_row w.drew (ρ.t 127) (ρ.t 3) (ρ.t 9) (ρ.t 5) L.t127 X.cellsByte g cur.size (by have hg':w.drew.heap[g]?=some (.cells cur (ρ.t 5) fg):=hg;simp [World.shape?,hg']) l h0 aa (by unfold maxLen at hcm;omega) ?_
  intro j x hx
  have hg':w.drew.heap[g]?=some (.cells cur (ρ.t 5) fg):=hg
  have e:(⟨g,0,none⟩:Addr).add j=⟨g,j,none⟩:=by unfold Addr.add;split<;>simp_all
  rw[e,Lib.cell_of_heap hg']
  have:=htake j x hx
  simpa using this
 have mixed:=L.mixed
 have t72:=L.t72;have a72:=L.a72;have z72:=L.z72;have v72:=L.v72;have u72:=run_underlying L.t72
 have t70:=L.t70;have a70:=L.a70;have z70:=L.z70;have v70:=L.v70;have u70:=run_underlying L.t70
 have t37:=L.t37;have a37:=L.a37;have z37:=L.z37;have v37:=L.v37;have u37:=run_underlying L.t37
 have t127:=L.t127;have a127:=L.a127;have z127:=L.z127;have v127:=L.v127;have u127:=run_underlying L.t127
 have t3:=L.t3;have a3:=L.a3;have z3:=L.z3;have v3:=L.v3;have u3:=run_underlying L.t3
 have t9:=L.t9;have a9:=L.a9;have z9:=L.z9;have v9:=L.v9;have u9:=run_underlying L.t9
 have t5:=X.t5;have a5:=X.a5;have z5:=X.z5;have v5:=X.v5;have u5:=run_underlying X.t5
 go_enter L.f169,Body.n169_ntmps ρ
 go_wp2
 go_region_o
 all_goals (go_wp2;go_ret;exact⟨rfl,(But.drew _ w).freeze g _⟩)
set_option maxHeartbeats 1000000 in
set_option maxRecDepth 100000 in
theorem vF (L:Lays.n169 P ρ) (X:Builder.Extra P ρ) (b:Nat) (p:Value) (fz:Nat×Nat) (w:World) (hbk:w.heap[b]?=some (.cells #[p,.slice none 0 0] (ρ.t 72) fz)) :
 Calls P (ρ.f 169) #[.pointer (some ⟨b,0,none⟩)] w fun e w'=>e = .returned (.string ⟨#[]⟩)/\But none w w':=by
 have hUS:=Any.unsafeString_none L X
 have c1:w.drew.cell? ⟨b,1,none⟩=some (.slice none 0 0):=by
  have:w.drew.heap[b]?=some (.cells #[p,.slice none 0 0] (ρ.t 72) fz):=hbk
  rw[Lib.cell_of_heap this];rfl
 have hSD:(Builtin.unsafeSliceData_ #[(ρ.t 37)] (ρ.t 127) #[.slice none 0 0]).run P w.drew = .ok (.pointer none) w.drew:=rfl
 have mixed:=L.mixed
 have t72:=L.t72;have a72:=L.a72;have z72:=L.z72;have v72:=L.v72;have u72:=run_underlying L.t72
 have t70:=L.t70;have a70:=L.a70;have z70:=L.z70;have v70:=L.v70;have u70:=run_underlying L.t70
 have t37:=L.t37;have a37:=L.a37;have z37:=L.z37;have v37:=L.v37;have u37:=run_underlying L.t37
 have t127:=L.t127;have a127:=L.a127;have z127:=L.z127;have v127:=L.v127;have u127:=run_underlying L.t127
 have t3:=L.t3;have a3:=L.a3;have z3:=L.z3;have v3:=L.v3;have u3:=run_underlying L.t3
 have t9:=L.t9;have a9:=L.a9;have z9:=L.z9;have v9:=L.v9;have u9:=run_underlying L.t9
 have t5:=X.t5;have a5:=X.a5;have z5:=X.z5;have v5:=X.v5;have u5:=run_underlying X.t5
 go_enter L.f169,Body.n169_ntmps ρ
 go_wp2
 go_region_o
 all_goals (go_wp2;go_ret;exact⟨rfl,But.drew _ w⟩)
set_option maxHeartbeats 1000000 in
set_option maxRecDepth 100000 in
theorem sB (L:Lays.n169 P ρ) (X:Builder.Extra P ρ) (b g:Nat) (p:Value) (cur:Array Value) (fz fg:Nat×Nat) (w:World) (hbk:w.heap[b]?=some (.cells #[p,.slice (some ⟨g,0,none⟩) 0 0] (ρ.t 72) fz)) (hg:w.heap[g]?=some (.cells cur (ρ.t 5) fg)) :
 Calls P (ρ.f 169) #[.pointer (some ⟨b,0,none⟩)] w fun e w'=>e = .returned (.string ⟨#[]⟩)/\But none w w':=by
 have hUS:=Any.unsafeString_none L X
 have hlt:b<w.heap.size:=(Array.getElem?_eq_some_iff.1 hbk).1
 have c1:w.drew.cell? ⟨b,1,none⟩=some (.slice (some ⟨g,0,none⟩) 0 0):=by
  have:w.drew.heap[b]?=some (.cells #[p,.slice (some ⟨g,0,none⟩) 0 0] (ρ.t 72) fz):=hbk
  rw[Lib.cell_of_heap this];rfl
 have hSD:(Builtin.unsafeSliceData_ #[(ρ.t 37)] (ρ.t 127) #[.slice (some ⟨g,0,none⟩) 0 0]).run P w.drew = .ok (.pointer (some ⟨w.drew.heap.size,0,none⟩)) (w.drew.alloc (.view ⟨g,0,none⟩ (ρ.t 5))):=
  Lib.run_unsafeSliceData_zero w.drew _ _ (ρ.t 5) L.t127 ⟨g,0,none⟩ 0 ((ρ.t 5),cur.size) (by have hg':w.drew.heap[g]?=some (.cells cur (ρ.t 5) fg):=hg;simp [World.shape?,hg'])
 have c2:(w.drew.alloc (.view ⟨g,0,none⟩ (ρ.t 5))).cell? ⟨b,1,none⟩=some (.slice (some ⟨g,0,none⟩) 0 0):=by
  have:(w.drew.alloc (.view ⟨g,0,none⟩ (ρ.t 5))).heap[b]?=_:=(Lib.alloc_old w.drew _ b hlt).trans hbk
  rw[Lib.cell_of_heap this];rfl
 have c3:(w.alloc (.view ⟨g,0,none⟩ (ρ.t 5))).drew.cell? ⟨b,1,none⟩=some (.slice (some ⟨g,0,none⟩) 0 0):=c2
 have c0:w.cell? ⟨b,1,none⟩=some (.slice (some ⟨g,0,none⟩) 0 0):=c1
 have mixed:=L.mixed
 have t72:=L.t72;have a72:=L.a72;have z72:=L.z72;have v72:=L.v72;have u72:=run_underlying L.t72
 have t70:=L.t70;have a70:=L.a70;have z70:=L.z70;have v70:=L.v70;have u70:=run_underlying L.t70
 have t37:=L.t37;have a37:=L.a37;have z37:=L.z37;have v37:=L.v37;have u37:=run_underlying L.t37
 have t127:=L.t127;have a127:=L.a127;have z127:=L.z127;have v127:=L.v127;have u127:=run_underlying L.t127
 have t3:=L.t3;have a3:=L.a3;have z3:=L.z3;have v3:=L.v3;have u3:=run_underlying L.t3
 have t9:=L.t9;have a9:=L.a9;have z9:=L.z9;have v9:=L.v9;have u9:=run_underlying L.t9
 have t5:=X.t5;have a5:=X.a5;have z5:=X.z5;have v5:=X.v5;have u5:=run_underlying X.t5
 go_enter L.f169,Body.n169_ntmps ρ
 go_wp2
 go_region_o
 all_goals (go_wp2;go_ret;exact⟨rfl,(But.drew _ w).alloc _⟩)
set_option maxHeartbeats 1000000 in
set_option maxRecDepth 100000 in
theorem vG (L:Lays.n169 P ρ) (X:Builder.Extra P ρ) (b g cap:Nat) (p:Value) (fz:Nat×Nat) (w:World) (hc0:cap≠0) (hbk:w.heap[b]?=some (.cells #[p,.slice (some ⟨g,0,none⟩) 0 cap] (ρ.t 72) fz)) :
 Calls P (ρ.f 169) #[.pointer (some ⟨b,0,none⟩)] w fun e w'=>e = .returned (.string ⟨#[]⟩)/\But none w w':=by
 have hUS:=Any.unsafeString_none L X
 have c1:w.drew.cell? ⟨b,1,none⟩=some (.slice (some ⟨g,0,none⟩) 0 cap):=by
  have:w.drew.heap[b]?=some (.cells #[p,.slice (some ⟨g,0,none⟩) 0 cap] (ρ.t 72) fz):=hbk
  rw[Lib.cell_of_heap this];rfl
 have hSD:(Builtin.unsafeSliceData_ #[(ρ.t 37)] (ρ.t 127) #[.slice (some ⟨g,0,none⟩) 0 cap]).run P w.drew = .ok (.pointer (some ⟨g,0,none⟩)) w.drew:=
  Lib.run_unsafeSliceData_row _ _ _ _ _ _ hc0
 clear hc0
 have mixed:=L.mixed
 have t72:=L.t72;have a72:=L.a72;have z72:=L.z72;have v72:=L.v72;have u72:=run_underlying L.t72
 have t70:=L.t70;have a70:=L.a70;have z70:=L.z70;have v70:=L.v70;have u70:=run_underlying L.t70
 have t37:=L.t37;have a37:=L.a37;have z37:=L.z37;have v37:=L.v37;have u37:=run_underlying L.t37
 have t127:=L.t127;have a127:=L.a127;have z127:=L.z127;have v127:=L.v127;have u127:=run_underlying L.t127
 have t3:=L.t3;have a3:=L.a3;have z3:=L.z3;have v3:=L.v3;have u3:=run_underlying L.t3
 have t9:=L.t9;have a9:=L.a9;have z9:=L.z9;have v9:=L.v9;have u9:=run_underlying L.t9
 have t5:=X.t5;have a5:=X.a5;have z5:=X.z5;have v5:=X.v5;have u5:=run_underlying X.t5
 go_enter L.f169,Body.n169_ntmps ρ
 go_wp2
 go_region_o
 all_goals (go_wp2;go_ret;exact⟨rfl,But.drew _ w⟩)
end
end Go.Proofs.YtdmomaomffhidaaGreatDoor
set_option maxRecDepth 8000
namespace Go.Proofs.YtdmomaomffhidaaGreatDoor
open Go Go.Dv
open Go.Vc (D cU cV cF b0)
open Go.Vc (CellF RowF ValsF dS vis)
theorem ta {w:World}:∀ {l:List UInt8} {vs:List Value} {G:List Nat},ValsF w (aL l) vs G->∀(j:Nat) (x:UInt8),l[j]?=some x->vs[j]?=some (Value.int .u8 (x.toNat:Int))
 | [],vs,G,_,j,b,hj=>by simp at hj
 |c::r,[],G,hv,_,_,_=>hv.elim
 |c::r,v::t,G,hv,0,b,hj=>by
  obtain⟨F1,F2,h1,h2,_⟩:=hv
  simp at hj;subst hj;obtain⟨rfl,_⟩:=h1;rfl
 |c::r,v::t,G,hv,j+1,b,hj=>by
  obtain⟨F1,F2,h1,h2,_⟩:=hv
  simpa using ta h2 j b (by simpa using hj)
theorem BU (bs:List UInt8) (hbl:bs.length<=100000000):Cl Tryz.prog 203 [.c (.p 9000 0)] [[.self,.ow 5 bs.length (aL bs) none]] fun r os=>r=vs ⟨bs.toArray⟩/\os=[[.dead,.dead]]:=by
 refine⟨ae,fun w β ok0 vals ha ho hg=>?_⟩
 have hL:lent [.c (.p 9000 0)] [[.self,.ow 5 bs.length (aL bs) none]]=[(9000,.str [.self,.s 19200 bs.length]),(19200,.arr 5 bs.length (aL bs) none)]:=rfl
 have hB:back (vs ⟨bs.toArray⟩) [[.dead,.dead]]=[(9000,.str [.dead,.dead])]:=rfl
 rw[hL] at ha ho hg ⊢
 cases vals with
 |nil=>exact ha.elim
 |cons v0 r=>
  cases r with
  |cons _ _=>exact ha.2.elim
  |nil=>
   obtain⟨b,hb,rfl⟩:=ha.1
   obtain⟨b',cells,ty,lh,hb',hc,hlh,hsf,hrel⟩:=ho.rel 9000 _ rfl
   have:b'=b:=by rw[hb] at hb';injection hb' with e;exact e.symm
   subst this
   obtain⟨rfl,hp⟩:=hsf 0 rfl
   obtain⟨p,v,hcl⟩:∃p v,cells = #[p,v]:=by
    have:=hrel.length
    have h2:cells.toList.length=2:=by rw[<-this];rfl
    match hq:cells.toList,h2 with
    | [p,v],_=>exact⟨p,v,by rw[<-Array.toArray_toList (xs:=cells),hq]⟩
   subst hcl
   have hv:OwnS Tryz.prog w (β 19200) bs.length v:=hrel.2.1
   have how:ownB [(9000,.str [.self,.s 19200 bs.length]),(19200,.arr 5 bs.length (aL bs) none)] β b':=⟨9000,_,rfl,hb⟩
   have fin:∀(g:Option Nat) (w':World),(∀y,g=some y->β 19200=some y)->But g w w'->∃v r objs' β',Ending.returned (.string ⟨bs.toArray⟩) = .returned v/\(r=vs ⟨bs.toArray⟩/\objs'=[[.dead,.dead]]) /\
    Post Tryz.prog w β ok0 [(9000,.str [.self,.s 19200 bs.length]),(19200,.arr 5 bs.length (aL bs) none)] 1 v w' r objs' β':=by
    intro g w' hgo hbut
    have hgb:g≠some b':=fun e=>by
     have:=ho.inj 9000 19200 _ _ b' rfl rfl hb (hgo b' e)
     cases this
    refine⟨_,vs ⟨bs.toArray⟩,[[.dead,.dead]],β,rfl,⟨rfl,rfl⟩,?_⟩
    refine⟨⟨rfl,?_⟩,?_,fun _ _=>rfl,rfl,?_,hbut.size,⟨hbut.os,hbut.tape,hbut.output⟩,?_,rfl⟩
    ·show ByteArray.size ⟨bs.toArray⟩<=maxLen
     show (List.toArray _).size<=maxLen
     simp only[List.size_toArray,maxLen];omega
    ·rw[hB]
     refine⟨fun i o hl=>?_,fun i j o o' x hl hl' _ _=>?_⟩
     ·have hi:i=9000:=by
       simp only[Go.Dv.look] at hl
       split at hl
       ·rename_i e;exact e.symm
       ·cases hl
      subst hi
      simp only[Go.Dv.look,if_true] at hl;injection hl with hl;subst hl
      exact⟨b',#[p,v],186,lh,hb,(hbut.keep b' (bu hc) hgb).trans hc,hlh,SelfOk.none (fun x hx=>by simp at hx;subst hx;exact fun e=>by cases e),⟨trivial,trivial,trivial⟩⟩
     ·have a1:∀ {i:Nat} {o:O},Go.Dv.look [(9000,O.str [.dead,.dead])] i=some o->i=9000:=fun {i o} hl=>by
       simp only[Go.Dv.look] at hl
       split at hl
       ·rename_i e;exact e.symm
       ·cases hl
      rw[a1 hl,a1 hl']
    ·rw[hB]
     refine⟨hbut.size,fun y hy hn=>hbut.keep y hy fun e=>hn ⟨19200,_,rfl,hgo y e⟩,fun y _ ⟨i,o,hl,hy⟩=>?_,fun y cs ty2 lh2 hy=>?_⟩
     ·have hi:i=9000:=by
       simp only[Go.Dv.look] at hl
       split at hl
       ·rename_i e;exact e.symm
       ·cases hl
      subst hi
      exact⟨9000,_,rfl,hy⟩
     ·by_cases e:g=some y
      ·obtain⟨lh',h1⟩:=hbut.cells y e cs ty2 lh2 hy
       exact⟨cs,lh',h1,rfl⟩
      ·exact⟨cs,lh2,(hbut.keep y (bu hy) e).trans hy,rfl⟩
    ·exact⟨List.nodup_nil,fun y hy=>by cases hy⟩
   have empty:∀(w':World),bs.length=0->But none w w'->∃v r objs' β',Ending.returned (.string ⟨#[]⟩) = .returned v/\(r=vs ⟨bs.toArray⟩/\objs'=[[.dead,.dead]]) /\
    Post Tryz.prog w β ok0 [(9000,.str [.self,.s 19200 bs.length]),(19200,.arr 5 bs.length (aL bs) none)] 1 v w' r objs' β':=by
    intro w' h0 hbut
    have:=fin none w' (fun y e=>by cases e) hbut
    have hbs:bs=[]:=List.eq_nil_of_length_eq_zero h0
    rw[hbs] at this ⊢
    exact this
   rcases hbg:β 19200 with _|g
   ·rw[hbg] at hv
    obtain⟨h0,rfl⟩:=hv
    refine (vF Tryz.lays169 Tryz.Builder_Extra_169 b' p lh w hc).mono ?_
    rintro e w' ⟨rfl,hbut⟩
    exact empty w' h0 hbut
   ·rw[hbg] at hv
    obtain⟨cap,cs,ty,lhg,rfl,hnc,hcm,hcg,hsz⟩:=hv
    rcases ho.rel 19200 _ rfl with⟨h1,_⟩|⟨g',vs',hd,junk,G,lh',h1,h2,hlh',h3,h4,h5,h6,h7⟩
    ·rw[hbg] at h1;cases h1
    rw[hbg] at h1;injection h1 with h1;subst h1
    rw[hcg] at h2;injection h2 with h2;injection h2 with e1 e2 e3
    subst e1 e2 e3
    have hcs:cap*1<=cs.size:=hsz 1 ae
    by_cases h0:bs.length=0
    ·by_cases hc0:cap=0
     ·subst hc0
      rw[h0] at hc
      refine (sB Tryz.lays169 Tryz.Builder_Extra_169 b' g p cs lh lhg w hc hcg).mono ?_
      rintro e w' ⟨rfl,hbut⟩
      exact empty w' h0 hbut
     ·rw[h0] at hc
      refine (vG Tryz.lays169 Tryz.Builder_Extra_169 b' g cap p lh w hc0 hc).mono ?_
      rintro e w' ⟨rfl,hbut⟩
      exact empty w' h0 hbut
    ·refine (vE Tryz.lays169 Tryz.Builder_Extra_169 b' g cap p cs lh bs w (fun e=>h0 (by rw[e];rfl)) hc ⟨lhg,hcg⟩ hnc hcm aa (fun j x hx=>?_)).mono ?_
     ·have:=ta h4 j x hx
      rw[h3,List.getElem?_append_left (List.getElem?_eq_some_iff.1 this).1];exact this
     ·rintro e w' ⟨rfl,hbut⟩
      exact fin (some g) w' (fun y e=>by rw[hbg];exact e) hbut
end Go.Proofs.YtdmomaomffhidaaGreatDoor
set_option maxRecDepth 8000
namespace Go.Proofs.YtdmomaomffhidaaGreatDoor
open Go Go.Dv
open Go.Vc (D cU cV cF b0)
open Go.Lib in
theorem mG:∀(l:List UInt8) (acc m:Nat),decFrom acc l=some m->acc<=m
 | [],acc,m,h=>by simp only[decFrom,Option.some.injEq] at h;omega
 |b::r,acc,m,h=>by
  simp only[decFrom] at h
  split at h
  ·have:=mG r _ m h;omega
  ·cases h
open Go.Lib in
theorem td:∀(l:List UInt8) (acc m:Nat),decFrom acc l=some m->m<18446744073709551616->parseUint10 acc l = .ok m
 | [],acc,m,h,_=>by simp only[decFrom,Option.some.injEq] at h;subst h;rfl
 |b::r,acc,m,h,hm=>by
  simp only[decFrom,digitVal] at h
  split at h
  ·rename_i d hd
   split at hd
   ·rename_i hb
    injection hd with hd
    have:=mG r _ m h
    simp only[parseUint10,if_pos hb]
    rw[if_neg aa,if_neg aa,hd]
    exact td r _ m h hm
   ·cases hd
  ·cases h
open Go.Lib in
theorem hM:∀(l:List UInt8) (acc:Nat) (b:UInt8),decFrom acc (l++[b])=match decFrom acc l,digitVal b with|some n,some d=>some (n*10+d)|_,_=>none
 | [],acc,b=>by simp only[List.nil_append,decFrom];cases digitVal b<;>rfl
 |c::r,acc,b=>by
  simp only[List.cons_append,decFrom]
  cases digitVal c with
  |none=>rfl
  |some d=>exact hM r _ b
open Go.Lib in
theorem ug {l:List UInt8} {i:Nat} {b:UInt8} (hb:l[i]?=some b) (hd:digitVal b=none):∀acc,decFrom acc l=none:=by
 induction l generalizing i with
 |nil=>simp at hb
 |cons c r ih=>
  intro acc
  simp only[decFrom]
  cases i with
  |zero=>simp only[List.getElem?_cons_zero,Option.some.injEq] at hb;subst hb;rw[hd]
  |succ i=>
   cases digitVal c with
   |none=>rfl
   |some d=>exact ih (by simpa using hb) _
open Go.Lib in
theorem py {d:Nat} (h:d<10):digitVal (UInt8.ofNat (48+d))=some d:=by
 have e:(UInt8.ofNat (48+d)).toNat=48+d:=by simp;omega
 unfold digitVal
 rw[e,if_pos aa]
 congr 1;omega
open Go.Lib in
theorem iD (u:Nat):decFrom 0 (decDigits u)=some u:=by
 induction u using Nat.strongRecOn with
 |ind u ih=>
  rw[decDigits]
  split
  ·rename_i h
   have:=hM [] 0 (UInt8.ofNat (48+u))
   rw[py h] at this
   simpa [decFrom] using this
  ·rename_i h
   rw[hM,ih (u / 10) aa,py aa]
   simp only[Option.some.injEq];omega
open Go.Lib in
theorem lb (u:Nat):∃b r,decDigits u=b::r/\48<=b.toNat/\b.toNat<=57:=by
 induction u using Nat.strongRecOn with
 |ind u ih=>
  rw[decDigits]
  split
  ·rename_i h
   exact⟨_,[],rfl,by simp;omega,by simp;omega⟩
  ·rename_i h
   obtain⟨b,r,h1,h2⟩:=ih (u / 10) aa
   rw[h1]
   exact⟨b,_,rfl,h2⟩
open Go.Lib in
def hY (l:List UInt8):Option Nat:=match decFrom 0 l with
 |some m=>if m<9223372036854775808/\decDigits m=l then some m else none
 |none=>none
open Go.Lib in
theorem dD {l:List UInt8} {m:Nat}:hY l=some m↔m<9223372036854775808/\decDigits m=l:=by
 unfold hY
 constructor
 ·intro h
  split at h
  ·split at h
   ·rename_i hc;injection h with h;subst h;exact hc
   ·cases h
  ·cases h
 ·rintro⟨h1,rfl⟩
  rw[iD]
  simp [h1]
open Go.Lib in
theorem nD (m:Nat):itoa (m:Int)=decDigits m:=by
 unfold itoa
 rw[if_neg aa];rfl
open Go.Lib in
theorem oN {l:List UInt8} {m:Nat} (h:hY l=some m):atoiAll l = .ok (m:Int):=by
 obtain⟨h1,rfl⟩:=dD.1 h
 obtain⟨b,r,hb,h2,h3⟩:=lb m
 have hd:=iD m
 rw[hb] at hd ⊢
 rw[atoiAll_plain b r aa aa]
 unfold parseMag
 rw[if_neg (by simp),td _ _ _ hd aa]
 simp only[signless]
 rw[if_neg aa]
open Go.Lib in
theorem AC {l:List UInt8} {v:Int} (h:atoiAll l = .ok v) (h0:0<=v) (hi:itoa v=l):hY l=some v.toNat:=by
 have hb:=atoiAll_bounds h
 refine dD.2 ⟨aa,?_⟩
 rw[<-hi]
 unfold itoa
 rw[if_neg aa]
end Go.Proofs.YtdmomaomffhidaaGreatDoor
set_option maxRecDepth 8000
namespace Go.Proofs.YtdmomaomffhidaaGreatDoor
open Go Go.Dv
open Go.Vc (D cU cV cF b0)
abbrev irow (n:Int):List D:=[int n]
mutual
inductive Expr where
 |mk (kind:Int) (op:Int) (not:Bool) (val:Val) (qual:ByteArray) (name:ByteArray) (kids:List Expr) (sub:List Query)
inductive Item where
 |mk (star:Bool) (qual:ByteArray) (e:Expr) (as_:ByteArray)
inductive Source where
 |mk (table:ByteArray) (as_:ByteArray) (on:List Expr)
inductive SortKey where
 |mk (e:Expr) (desc:Bool)
inductive Query where
 |mk (distinct:Bool) (items:List Item) (from_:List Source) (where_:List Expr) (order:List SortKey) (limit:Int)
end
mutual
def Expr.row:Expr->List D
 |.mk kind op not val qual name kids sub=>int kind::int op::bool not::int val.kind::int val.num::str val.text::str qual::str name :: .sl kids.length (iE kids) :: .sl sub.length (jv sub)::[]
def Item.row:Item->List D
 |.mk star qual e as_=>bool star::str qual::(e.row++str as_::[])
def Source.row:Source->List D
 |.mk table as_ on=>str table::str as_ :: .sl on.length (iE on)::[]
def SortKey.row:SortKey->List D
 |.mk e desc=>(e.row++bool desc::[])
def Query.row:Query->List D
 |.mk distinct items from_ where_ order limit=>bool distinct :: .sl items.length (ld items) :: .sl from_.length (iF from_) :: .sl where_.length (iE where_) :: .sl order.length (gJ order)::int limit::[]
def iE:List Expr->List D
 | []=>[]
 |x::r=>x.row++iE r
def ld:List Item->List D
 | []=>[]
 |x::r=>x.row++ld r
def jv:List Query->List D
 | []=>[]
 |x::r=>x.row++jv r
def gJ:List SortKey->List D
 | []=>[]
 |x::r=>x.row++gJ r
def iF:List Source->List D
 | []=>[]
 |x::r=>x.row++iF r
end
theorem j6:∀l:List Expr,iE l=l.flatMap Expr.row
 | []=>by rw[iE,List.flatMap_nil]
 |x::r=>by rw[iE,List.flatMap_cons,j6 r]
theorem pz:∀l:List Item,ld l=l.flatMap Item.row
 | []=>by rw[ld,List.flatMap_nil]
 |x::r=>by rw[ld,List.flatMap_cons,pz r]
theorem nE:∀l:List Query,jv l=l.flatMap Query.row
 | []=>by rw[jv,List.flatMap_nil]
 |x::r=>by rw[jv,List.flatMap_cons,nE r]
theorem lf:∀l:List SortKey,gJ l=l.flatMap SortKey.row
 | []=>by rw[gJ,List.flatMap_nil]
 |x::r=>by rw[gJ,List.flatMap_cons,lf r]
theorem mv:∀l:List Source,iF l=l.flatMap Source.row
 | []=>by rw[iF,List.flatMap_nil]
 |x::r=>by rw[iF,List.flatMap_cons,mv r]
theorem Expr.row_mk (kind:Int) (op:Int) (not:Bool) (val:Val) (qual:ByteArray) (name:ByteArray) (kids:List Expr) (sub:List Query):(Expr.mk kind op not val qual name kids sub).row=int kind::int op::bool not::int val.kind::int val.num::str val.text::str qual::str name :: .sl kids.length (kids.flatMap Expr.row) :: .sl sub.length (sub.flatMap Query.row)::[]:=by rw[Expr.row];rw[j6];rw[nE]
theorem Item.row_mk (star:Bool) (qual:ByteArray) (e:Expr) (as_:ByteArray):(Item.mk star qual e as_).row=bool star::str qual::(e.row++str as_::[]):=by rw[Item.row]
theorem Source.row_mk (table:ByteArray) (as_:ByteArray) (on:List Expr):(Source.mk table as_ on).row=str table::str as_ :: .sl on.length (on.flatMap Expr.row)::[]:=by rw[Source.row];rw[j6]
theorem SortKey.row_mk (e:Expr) (desc:Bool):(SortKey.mk e desc).row=(e.row++bool desc::[]):=by rw[SortKey.row]
theorem Query.row_mk (distinct:Bool) (items:List Item) (from_:List Source) (where_:List Expr) (order:List SortKey) (limit:Int):(Query.mk distinct items from_ where_ order limit).row=bool distinct :: .sl items.length (items.flatMap Item.row) :: .sl from_.length (from_.flatMap Source.row) :: .sl where_.length (where_.flatMap Expr.row) :: .sl order.length (order.flatMap SortKey.row)::int limit::[]:=by rw[Query.row];rw[j6];rw[pz];rw[lf];rw[mv]
theorem Expr.row_len (x:Expr):x.row.length=10:=by cases x;simp [Expr.row]
theorem Expr.tk (x:Expr) (r:List D):fG 10 (x.row++r)=some x.row:=cT (Expr.row_len x)
theorem Expr.ne (x:Expr) (r:List D):x.row++r≠[]:=fun h=>by have:=congrArg List.length h;simp [Expr.row_len] at this
theorem Source.row_len (x:Source):x.row.length=3:=by cases x;simp [Source.row]
theorem Source.ne (x:Source) (r:List D):x.row++r≠[]:=fun h=>by have:=congrArg List.length h;simp [Source.row_len] at this
theorem Query.row_len (x:Query):x.row.length=6:=by cases x;simp [Query.row]
theorem Query.tk (x:Query) (r:List D):fG 6 (x.row++r)=some x.row:=cT (Query.row_len x)
theorem Query.ne (x:Query) (r:List D):x.row++r≠[]:=fun h=>by have:=congrArg List.length h;simp [Query.row_len] at this
theorem Item.row_len (x:Item):x.row.length=13:=by cases x;simp [Item.row,Expr.row_len]
theorem Item.tk (x:Item) (r:List D):fG 13 (x.row++r)=some x.row:=cT (Item.row_len x)
theorem Item.ne (x:Item) (r:List D):x.row++r≠[]:=fun h=>by have:=congrArg List.length h;simp [Item.row_len] at this
theorem SortKey.row_len (x:SortKey):x.row.length=11:=by cases x;simp [SortKey.row,Expr.row_len]
theorem SortKey.ne (x:SortKey) (r:List D):x.row++r≠[]:=fun h=>by have:=congrArg List.length h;simp [SortKey.row_len] at this
mutual
def szExpr:Expr->Nat
 |.mk kind op not val qual name kids sub=>kJ val+(qual.size+(name.size+(bI kids+(cJ sub))))
def iG:Item->Nat
 |.mk star qual e as_=>qual.size+(szExpr e+(as_.size))
def cD:Source->Nat
 |.mk table as_ on=>table.size+(as_.size+(bI on))
def dZ:SortKey->Nat
 |.mk e desc=>szExpr e
def szQuery:Query->Nat
 |.mk distinct items from_ where_ order limit=>hZ items+(cQ from_+(bI where_+(dL order)))
def bI:List Expr->Nat
 | []=>0
 |x::r=>szExpr x+1+bI r
def hZ:List Item->Nat
 | []=>0
 |x::r=>iG x+1+hZ r
def cJ:List Query->Nat
 | []=>0
 |x::r=>szQuery x+1+cJ r
def dL:List SortKey->Nat
 | []=>0
 |x::r=>dZ x+1+dL r
def cQ:List Source->Nat
 | []=>0
 |x::r=>cD x+1+cQ r
end
theorem aO:∀l:List Expr,bI l=l.length+(l.map szExpr).sum
 | []=>by rw[bI];rfl
 |x::r=>by rw[bI,aO r,List.length_cons,List.map_cons,List.sum_cons];omega
theorem dM:∀l:List Item,hZ l=l.length+(l.map iG).sum
 | []=>by rw[hZ];rfl
 |x::r=>by rw[hZ,dM r,List.length_cons,List.map_cons,List.sum_cons];omega
theorem bJ:∀l:List Query,cJ l=l.length+(l.map szQuery).sum
 | []=>by rw[cJ];rfl
 |x::r=>by rw[cJ,bJ r,List.length_cons,List.map_cons,List.sum_cons];omega
theorem cI:∀l:List SortKey,dL l=l.length+(l.map dZ).sum
 | []=>by rw[dL];rfl
 |x::r=>by rw[dL,cI r,List.length_cons,List.map_cons,List.sum_cons];omega
theorem d4:∀l:List Source,cQ l=l.length+(l.map cD).sum
 | []=>by rw[cQ];rfl
 |x::r=>by rw[cQ,d4 r,List.length_cons,List.map_cons,List.sum_cons];omega
theorem bb (kind:Int) (op:Int) (not:Bool) (val:Val) (qual:ByteArray) (name:ByteArray) (kids:List Expr) (sub:List Query):szExpr (.mk kind op not val qual name kids sub)=kJ val+(qual.size+(name.size+(bI kids+(cJ sub)))):=by rw[szExpr]
theorem jw (star:Bool) (qual:ByteArray) (e:Expr) (as_:ByteArray):iG (.mk star qual e as_)=qual.size+(szExpr e+(as_.size)):=by rw[iG]
theorem dk (table:ByteArray) (as_:ByteArray) (on:List Expr):cD (.mk table as_ on)=table.size+(as_.size+(bI on)):=by rw[cD]
theorem ii (e:Expr) (desc:Bool):dZ (.mk e desc)=szExpr e:=by rw[dZ]
theorem dt (distinct:Bool) (items:List Item) (from_:List Source) (where_:List Expr) (order:List SortKey) (limit:Int):szQuery (.mk distinct items from_ where_ order limit)=hZ items+(cQ from_+(bI where_+(dL order))):=by rw[szQuery]
structure Tok where
 kind:Int
 text:ByteArray
 at_:Int
def Tok.row (t:Tok):List D:=[int t.kind,str t.text,int t.at_]
theorem Tok.row_len (t:Tok):t.row.length=3:=rfl
theorem Tok.tk (t:Tok) (r:List D):fG 3 (t.row++r)=some t.row:=cT rfl
theorem Tok.ne (t:Tok) (r:List D):t.row++r≠[]:=fun h=>by cases h
def signs:List ByteArray:=[⟨#[40]⟩,⟨#[41]⟩,⟨#[44]⟩,⟨#[46]⟩,⟨#[42]⟩,⟨#[43]⟩,⟨#[45]⟩,⟨#[47]⟩,⟨#[37]⟩,⟨#[61]⟩,⟨#[60,62]⟩,⟨#[60]⟩,⟨#[60,61]⟩,⟨#[62]⟩,⟨#[62,61]⟩,⟨#[124,124]⟩]
def dm (s:ByteArray):Bool:=signs.any fun x=>decide (s=x)
theorem BV (s:ByteArray):Cl Tryz.prog 192 [vs s] [] fun r _=>r=vb (dm s):=by
 refine ai ac false Tryz.func192 rfl ae ?_
 simp only[Tryz.f192,tt,seval]
 all_goals repeat' first|(refine ab (fun h=>?_) (fun h=>?_)<;>try simp only[tt,seval])|(intro _;try simp only[tt,seval])
 all_goals first|contradiction|exact⟨_,_,aR (by simp [dm,signs, *]),am rfl⟩
theorem zl:Cl Tryz.prog 238 [] [] fun r _=>r = .c (.sl 16 (signs.flatMap srow) none):=by
 refine ai ac false Tryz.func238 rfl ae ?_
 simp only[tt,seval,Tryz.f238]
 refine⟨_,[],rfl,ap ?_⟩
 simp only[tt,seval,signs,srow]
theorem AD (s:ByteArray):decide (0<=mD s signs)=dm s:=by
 unfold mD dm
 by_cases h:signs.findIdx (fun w=>decide (w=s))<signs.length
 ·rw[if_pos h]
  have:=List.findIdx_getElem (w:=h)
  have hm:=aJ h
  refine (aw aa).trans (Eq.symm ?_)
  rw[List.any_eq_true]
  exact⟨_,hm,by simpa [eq_comm] using this⟩
 ·rw[if_neg h]
  refine (ax aa).trans (Eq.symm ?_)
  rw[List.any_eq_false]
  intro x hx
  have:=List.findIdx_lt_length (xs:=signs) (p:=fun w=>decide (w=s))
  simp only[h,false_iff,not_exists,not_and] at this
  simpa [eq_comm] using this x hx
theorem xS (s:ByteArray):Cl Tryz.prog 273 [.c (.sl 16 (signs.flatMap srow) none),vs s] [] fun r _=>r=vb (dm s):=by
 refine ai ac false Tryz.func273 rfl ae ?_
 simp only[Tryz.f273,tt,seval]
 refine cZ (zi signs s) ?_ ?_<;>simp only[tt,seval,show signs.length=16 from rfl]
 exact⟨_,_,aR (by rw[<-AD]),am rfl⟩
theorem AE (s:ByteArray):Cl Tryz.prog 241 [vs s] [] fun r _=>r=vb (dm s):=by
 refine ai ac false Tryz.func241 rfl ae ?_
 simp only[Tryz.f241,tt,seval]
 refine cZ (zl) ?_ ?_<;>simp only[tt,seval]
 refine cZ (xS s) ?_ ?_<;>simp only[tt,seval]
 exact⟨_,_,rfl,am rfl⟩
def GX:List ByteArray:=⟨#[]⟩::[⟨#[79,82]⟩,⟨#[65,78,68]⟩,⟨#[61]⟩,⟨#[60,62]⟩,⟨#[60]⟩,⟨#[60,61]⟩,⟨#[62]⟩,⟨#[62,61]⟩,⟨#[124,124]⟩,⟨#[43]⟩,⟨#[45]⟩,⟨#[42]⟩,⟨#[47]⟩,⟨#[37]⟩,⟨#[78,79,84]⟩,⟨#[45]⟩]
def j1 (k:Int):ByteArray:=if 1<=k/\k<=16 then GX.getD k.toNat ⟨#[]⟩ else ⟨#[]⟩
def kw (k:Nat):ByteArray:=kM.getD k ⟨#[]⟩
end Go.Proofs.YtdmomaomffhidaaGreatDoor
set_option maxRecDepth 8000
namespace Go.Proofs.YtdmomaomffhidaaGreatDoor
open Go Go.Dv
open Go.Vc (D cU cV cF b0)
open Go.RowKit (Below)
theorem AF (k:Nat) (h1:1<=k) (h2:k<=28):Cl Tryz.prog 197 [vi k] [] fun r _=>r=vs (kw k):=by
 refine ai ac false Tryz.func197 rfl ae ?_
 simp only[Tryz.f197,tt,seval]
 refine cZ (dr k 1 28) ?_ ?_<;>simp only[tt,seval]
 simp only[tt,seval,aw (show (1:Int)<=k/\(k:Int)<=28 by omega)]
 refine cZ (sT) ?_ ?_<;>simp only[tt,seval]
 have hlt:k<kM.length:=by show _<29;omega
 refine⟨aa,aa,_,aD fx (aA hlt),jZ _ _,?_⟩
 simp only[tt,seval,srow]
 exact⟨_,_,jt (by rw[kw,List.getD_eq_getElem?_getD,aA hlt];rfl),am rfl⟩
theorem Ei:([.lit (.string ⟨#[]⟩),.lit (.string ⟨#[79,82]⟩),.lit (.string ⟨#[65,78,68]⟩),.lit (.string ⟨#[61]⟩),.lit (.string ⟨#[60,62]⟩),.lit (.string ⟨#[60]⟩),.lit (.string ⟨#[60,61]⟩),.lit (.string ⟨#[62]⟩),.lit (.string ⟨#[62,61]⟩),.lit (.string ⟨#[124,124]⟩),.lit (.string ⟨#[43]⟩),.lit (.string ⟨#[45]⟩),.lit (.string ⟨#[42]⟩),.lit (.string ⟨#[47]⟩),.lit (.string ⟨#[37]⟩),.lit (.string ⟨#[78,79,84]⟩),.lit (.string ⟨#[45]⟩)]:List D)=GX.flatMap srow:=rfl
theorem BW:([.lit (.string ⟨#[79,82]⟩),.lit (.string ⟨#[65,78,68]⟩),.lit (.string ⟨#[61]⟩),.lit (.string ⟨#[60,62]⟩),.lit (.string ⟨#[60]⟩),.lit (.string ⟨#[60,61]⟩),.lit (.string ⟨#[62]⟩),.lit (.string ⟨#[62,61]⟩),.lit (.string ⟨#[124,124]⟩),.lit (.string ⟨#[43]⟩),.lit (.string ⟨#[45]⟩),.lit (.string ⟨#[42]⟩),.lit (.string ⟨#[47]⟩),.lit (.string ⟨#[37]⟩),.lit (.string ⟨#[78,79,84]⟩),.lit (.string ⟨#[45]⟩)]:List D)=GX.tail.flatMap srow:=rfl
theorem nH (k:Int):Cl Tryz.prog 217 [vi k] [] fun r _=>r=vs (j1 k):=by
 refine ai ac false Tryz.func217 rfl ae ?_
 simp only[Tryz.f217,tt,seval]
 refine cZ (dr k 1 16) ?_ ?_<;>simp only[tt,seval]
 refine ab (fun hc=>?_) (fun hc=>?_)
 ·exact⟨_,_,jt (by rw[j1,if_neg (by simpa only[Bool.not_eq_true',decide_eq_false_iff_not] using hc)]),am rfl⟩
 ·have hc:1<=k/\k<=16:=by simpa only[Bool.not_eq_false',decide_eq_true_eq] using hc
  have hlt:k.toNat<GX.length:=by show _<17;omega
  refine⟨aa,aa,?_⟩
  rw[Ei,aD fx (aA hlt)]
  simp only[tt,seval,srow]
  exact⟨_,_,jt (by rw[j1,if_pos hc,List.getD_eq_getElem?_getD,aA hlt];rfl),am rfl⟩
theorem fZ (k:Int):Cl Tryz.prog 212 [vi k] [] fun r _=>r=vs (j1 k):=by
 refine ai ac false Tryz.func212 rfl ae ?_
 simp only[Tryz.f212,tt,seval]
 by_cases h1:k<1
 ·simp only[tt,seval,aw h1]
  exact⟨_,_,jt (by rw[j1,if_neg aa]),am rfl⟩
 ·simp only[tt,seval,ax h1]
  refine ab (fun h2=>?_) (fun h2=>?_)
  ·exact⟨_,_,jt (by rw[j1,if_neg aa]),am rfl⟩
  ·have hc:1<=k/\k<=16:=by omega
   have hlt:(k-1).toNat<GX.tail.length:=by show _<16;omega
   rw[aC (n:=k-1) aa aa]
   refine⟨aa,aa,?_⟩
   rw[BW,aD fx (aA hlt)]
   simp only[tt,seval,srow]
   have hlt':k.toNat<GX.length:=by show _<17;omega
   refine⟨_,_,jt ?_,am rfl⟩
   rw[j1,if_pos hc,List.getD_eq_getElem?_getD,aA hlt']
   simp only[List.getElem_tail,Option.getD_some,show (k-1).toNat+1=k.toNat by omega]
theorem zm:Tryz.prog.underlying 188=some (.interface (Tryz.prog.methodsAt 188)):=by kernel_rfl
theorem Ej {n:Nat} {d:Option Nat} {K:K0} {f:Rg} {L:Ob} {p:Po} {x:Operand}:bP Tryz.prog n d (do eqGuard .neq 188 x (.const .nilIface) .nilIface .nilIface;binOp .neq 188 .nilIface .nilIface) K f L p=K (put n f d (.c (.v (.bool false)))) L p:=
 bd (fun w=>by rw[Sem.run_bind];simp [eqGuard,run_neq_nil_nil w 188 zm]) trivial
theorem GY {n:Nat} {d:Option Nat} {K:K0} {f:Rg} {L:Ob} {p:Po} {x y:Operand} {u:TypeId} {v:Value}:bP Tryz.prog n d (do eqGuard .neq 188 x y (.iface u v) .nilIface;binOp .neq 188 (.iface u v) .nilIface) K f L p=K (put n f d (.c (.v (.bool true)))) L p:=
 bd (fun w=>by rw[Sem.run_bind];simp [eqGuard,run_neq_held_nil w 188 u v zm]) trivial
theorem Em {w:World} {own:Nat->Prop} (h:GlW w own):(∃v,w.cell? ⟨2,0,none⟩=some v/\(v = .nilIface∨∃t p,v = .iface t p))/\(∃v,w.cell? ⟨3,0,none⟩=some v/\(v = .nilIface∨∃t p,v = .iface t p)):=by
 constructor
 ·obtain⟨_,cs,ty,lh,h2,v,h3,h4⟩:=h _ (List.mem_cons_of_mem _ (List.mem_cons_of_mem _ (List.mem_cons_self)))
  exact⟨v,by simp only[World.cell?,h2];exact h3,h4⟩
 ·obtain⟨_,cs,ty,lh,h2,v,h3,h4⟩:=h _ (List.mem_cons_of_mem _ (List.mem_cons_of_mem _ (List.mem_cons_of_mem _ (List.mem_cons_self))))
  exact⟨v,by simp only[World.cell?,h2];exact h3,h4⟩
def Iw (s:ByteArray) (r:S):Prop:=∃n e,r = .tu [([.v (.int .i64 n)],true),([.v e],true)]/\((e = .nilIface/\Lib.atoiAll s.data.toList = .ok n)∨((∃t p,e = .iface t p)/\∀v,Lib.atoiAll s.data.toList ≠ .ok v))
theorem GZ (s:ByteArray) (hs:s.size<=1048576):Cl Tryz.prog 229 [vs s] [] fun r _=>Iw s r:=
 Cl.ofNew ae [.string s] fun w hg=>by
  obtain⟨⟨ev,h4,h4'⟩,⟨ev',h5,h5'⟩⟩:=Em hg
  rcases ha:Lib.atoiAll s.data.toList with v|_|_
  ·skip
   refine (Any.strconv_Atoi_ok Tryz.laysC172 s aa v ha w).mono ?_
   rintro e w' ⟨rfl,hw⟩
   refine⟨_,.tu [([.v (.int .i64 v)],true),([.v .nilIface],true)],rfl,⟨v,_,rfl,.inl ⟨rfl,ha⟩⟩,rfl,fun β=>⟨_,rfl,⟨⟨rfl,trivial⟩,trivial⟩,⟨⟨rfl,trivial⟩,trivial⟩,trivial⟩,?_⟩
   rcases hw with rfl|⟨t,rfl⟩
   ·exact Below.refl _ _
   ·exact Lib.bytesWorld_below _ _ _
  ·refine (Any.strconv_Atoi_syntax Tryz.laysC172 s aa ha ev w h4 h4').mono ?_
   rintro e w' ⟨N,rfl,_,_,hb⟩
   exact⟨_,.tu [([.v (.int .i64 _)],true),([.v (.iface _ _)],true)],rfl,⟨_,_,rfl,.inr ⟨⟨_,_,rfl⟩,fun v h=>by rw[ha] at h;cases h⟩⟩,rfl,fun β=>⟨_,rfl,⟨⟨rfl,trivial⟩,trivial⟩,⟨⟨rfl,trivial⟩,trivial⟩,trivial⟩,hb⟩
  ·refine (Any.strconv_Atoi_range Tryz.laysC172 s aa ha ev' w h5 h5').mono ?_
   rintro e w' ⟨N,rfl,_,_,hb⟩
   exact⟨_,.tu [([.v (.int .i64 _)],true),([.v (.iface _ _)],true)],rfl,⟨_,_,rfl,.inr ⟨⟨_,_,rfl⟩,fun v h=>by rw[ha] at h;cases h⟩⟩,rfl,fun β=>⟨_,rfl,⟨⟨rfl,trivial⟩,trivial⟩,⟨⟨rfl,trivial⟩,trivial⟩,trivial⟩,hb⟩
def lg (s:ByteArray):Bool:=(hY s.data.toList).isSome
def ms (s:ByteArray):Int:=((hY s.data.toList).getD 0:Nat)
def oO (s:ByteArray):S:=.tu [([.v (.int .i64 (ms s))],true),([.v (.bool (lg s))],true)]
theorem tf (s:ByteArray) (hs:s.size<=1048576):Cl Tryz.prog 186 [vs s] [] fun r _=>r=oO s:=by
 refine ai ac false Tryz.func186 rfl ae ?_
 simp only[Tryz.f186,tt,seval]
 refine iQ (GZ s hs) ?_ ?_ ?_
 ·decide
 ·simp only[tt,seval]
 rintro r ⟨n,e,rfl,hh⟩
 simp only[tt,seval]
 rcases hh with⟨rfl,ha⟩|⟨⟨tt',pp,rfl⟩,hne⟩
 ·rw[Ej]
  simp only[tt,seval]
  have hb:=Lib.atoiAll_bounds ha
  by_cases hn:n<0
  ·simp only[tt,seval,aw hn]
   have hno:hY s.data.toList=none:=by
    cases hc:hY s.data.toList with
    |none=>rfl
    |some m=>have:=oN hc;rw[ha] at this;injection this;omega
   exact⟨_,_,by rw[oO,ms,lg,hno];rfl,am rfl⟩
  ·simp only[tt,seval,ax hn]
   refine cZ (m6 n aa aa) ?_ ?_<;>simp only[tt,seval]
   refine ab (fun he=>?_) (fun he=>?_)
   ·have he':¬dj n=s:=by simpa only[Bool.not_eq_true',decide_eq_false_iff_not] using he
    have hno:hY s.data.toList=none:=by
     cases hc:hY s.data.toList with
     |none=>rfl
     |some m=>
      have h1:=oN hc
      obtain⟨_,h2⟩:=dD.1 hc
      rw[ha] at h1
      injection h1 with h1
      refine absurd (mF ?_) he'
      rw[dj,h1,nD,h2]
    exact⟨_,_,by rw[oO,ms,lg,hno];rfl,am rfl⟩
   ·have he':dj n=s:=by simpa only[Bool.not_eq_false',decide_eq_true_eq] using he
    have hc:=AC ha aa (by rw[<-he'];rfl)
    exact⟨_,_,by rw[oO,ms,lg,hc];simp only[Option.getD_some,Option.isSome_some,Int.toNat_of_nonneg (show 0<=n by omega)],am rfl⟩
 ·rw[GY]
  simp only[tt,seval]
  have hno:hY s.data.toList=none:=by
   cases hc:hY s.data.toList with
   |none=>rfl
   |some m=>exact absurd (oN hc) (hne _)
  exact⟨_,_,by rw[oO,ms,lg,hno];rfl,am rfl⟩
theorem BX (s:ByteArray) (hs:s.size<=1048576):Cl Tryz.prog 191 [vs s] [] fun r _=>r=oO s:=by
 obtain⟨l,hl⟩:∃l,l=s.data.toList:=⟨_,rfl⟩
 have hll:l.length=s.size:=by rw[hl];exact aF s
 refine ai ac false Tryz.func191 rfl ae ?_
 simp only[Tryz.f191,tt,seval]
 refine fun _=>?_
 have none_of (h:hY l=none):oO s = .tu [([.v (.int .i64 0)],true),([.v (.bool false)],true)]:=by rw[oO,ms,lg,<-hl,h];rfl
 have fin0 (h:hY l=none) {L:Ob} {p:Po}:∃r objs,r=oO s/\EndOk L p (.tu [([.v (.int .i64 0)],true),([.v (.bool false)],true)]) r 0 objs:=⟨_,[],rfl,by rw[none_of h];exact am rfl⟩
 by_cases hs1:(s.size:Int)<1
 ·simp only[tt,seval,aw hs1]
  exact fin0 (by
   cases hc:hY l with
   |none=>rfl
   |some m=>
    obtain⟨_,h2⟩:=dD.1 hc
    obtain⟨b,r,h3,_⟩:=lb m
    have:l.length=0:=by omega
    rw[<-h2,h3] at this;simp at this)
 ·simp only[tt,seval,ax hs1]
  refine fun _=>ab (fun hs2=>?_) (fun hs2=>?_)
  ·exact fin0 (by
    cases hc:hY l with
    |none=>rfl
    |some m=>
     obtain⟨h1,h2⟩:=dD.1 hc
     have:=eZ m 18 aa
     rw[h2] at this;omega)
  ·skip
   refine dLoop.intro (fun f' L p=>∃i n:Nat,f' 5=vi i/\f' 4=vi n/\i<=l.length/\Lib.decFrom 0 (l.take i)=some n/\n<=9223372036854775807/\L=[]/\p=none) (fun f' _ _=>(s.size-eN (f' 5)).toNat) [] none ⟨ao _,aq _,?_⟩ ?_
   ·simp only[tt,seval]
    exact⟨0,0,rfl,rfl,aa,rfl,aa⟩
   ·rintro g L p ⟨i,n,h5,h4,hi,hd,hn,rfl,rfl⟩
    simp only[tt,seval] at h5 h4
    simp only[tt,seval,h5,h4,Int.ofNat_lt]
    refine fun _=>ab (fun hlt=>?_) (fun hge=>?_)
    ·have hil:i<l.length:=by omega
     have hget:l[i]?=some l[i]:=aA hil
     rw[fQ hl hil]
     simp only[tt,seval]
     have dn (h:¬(48<=l[i].toNat/\l[i].toNat<=57)):hY l=none:=by
      unfold hY
      rw[ug hget (by unfold Lib.digitVal;rw[if_neg h]) 0]
     by_cases hb:(l[i].toNat:Int)<48
     ·simp only[tt,seval,aw hb]
      exact fin0 (dn aa)
     ·simp only[tt,seval,ax hb,h5]
      rw[fQ hl hil]
      simp only[tt,seval,h5]
      refine ab (fun hb2=>?_) (fun hb2=>?_)
      ·exact fin0 (dn aa)
      ·try simp only[tt,seval,h5,h4]
       rw[fQ hl hil]
       simp only[tt,seval,h5,h4]
       have hbb:48<=l[i].toNat/\l[i].toNat<=57:=by omega
       obtain⟨d,hd48⟩:∃d:Nat,l[i].toNat=48+d:=⟨l[i].toNat-48,aa⟩
       have hd9:d<=9:=by omega
       have hdv:Lib.digitVal l[i]=some d:=by unfold Lib.digitVal;rw[if_pos hbb,hd48];congr 1;omega
       have hsn:Lib.decFrom 0 (l.take (i+1))=some (n*10+d):=by rw[List.take_succ_eq_append_getElem hil,hM,hd,hdv]
       rw[hd48,aC (n:=((48+d:Nat):Int)) aa aa,aC (n:=((48+d:Nat):Int)-48) aa aa,aC (n:=9223372036854775807-(((48+d:Nat):Int)-48)) aa aa]
       have ht:(9223372036854775807-(((48+d:Nat):Int)-48)).tdiv 10=(((9223372036854775807-d) / 10:Nat):Int):=by
        rw[Int.tdiv_eq_ediv_of_nonneg aa];omega
       rw[ht,aC (n:=(((9223372036854775807-d) / 10:Nat):Int)) aa aa]
       refine ab (fun ho=>?_) (fun ho=>?_)
       ·exact fin0 (by
         cases hc:hY l with
         |none=>rfl
         |some m=>
          obtain⟨h1,h2⟩:=dD.1 hc
          have hm:=iD m
          rw[h2] at hm
          have hsp:∀(a b:List UInt8) (acc:Nat),Lib.decFrom acc (a++b)=(Lib.decFrom acc a).bind fun x=>Lib.decFrom x b:=by
           intro a
           induction a with
           |nil=>intro b acc;rfl
           |cons c r ih=>
            intro b acc
            simp only[List.cons_append,Lib.decFrom]
            cases Lib.digitVal c with
            |none=>rfl
            |some d=>exact ih b _
          have:=hsp (l.take (i+1)) (l.drop (i+1)) 0
          rw[List.take_append_drop,hm,hsn] at this
          have:=mG _ _ _ this.symm
          omega)
       ·rw[aC (n:=10*(n:Int)) aa aa,aC (n:=10*(n:Int)+(((48+d:Nat):Int)-48)) aa aa,aC (n:=(i:Int)+1) aa aa]
        exact⟨[],none,ao _,aq _,⟨i+1,n*10+d,by simp,kK aa,aa,hsn,aa,rfl,rfl⟩,az⟩
    ·have:i=l.length:=by omega
     subst this
     rw[List.take_length] at hd
     refine cZ (qM n aa aa) ?_ ?_<;>simp only[tt,seval,h4]
     refine ab (fun he=>?_) (fun he=>?_)
     ·have he':¬dj n=s:=by simpa only[Bool.not_eq_true',decide_eq_false_iff_not] using he
      exact fin0 (by
       unfold hY
       rw[hd]
       refine if_neg fun hc=>he' (mF ?_)
       rw[dj,nD,hc.2,hl])
     ·have he':dj n=s:=by simpa only[Bool.not_eq_false',decide_eq_true_eq] using he
      have hc:hY l=some n:=dD.2 ⟨aa,by rw[<-nD,hl,<-he'];rfl⟩
      exact⟨_,_,by rw[oO,ms,lg,<-hl,hc];rfl,am rfl⟩
end Go.Proofs.YtdmomaomffhidaaGreatDoor
set_option maxRecDepth 8000
namespace Go.Proofs.YtdmomaomffhidaaGreatDoor
open Go Go.Dv
open Go.Vc (D cU cV cF b0)
def aM (t:Tok):Bool:=if t.kind=1 then (decide (¬key t.text=0)&&decide (d7 t.text=t.text)) else if t.kind=2 then decide (1<=t.text.size/\t.text.size<=20) else if t.kind=3 then lg t.text else if t.kind=4 then decide (t.text.size<=40) else if t.kind=5 then dm t.text else false
theorem m8 (t:Tok) (hs:t.text.size<=1048576):Cl Tryz.prog 111 [.ag (ar t.row)] [] fun r _=>r=vb (aM t):=by
 rw[Tok.row]
 refine ai ac false Tryz.func111 rfl ae ?_
 simp only[Tryz.f111,tt,seval]
 refine ab (fun h1=>?_) (fun h1=>?_)
 ·skip
  refine dDrawn.intro [] (dC [0,2,5,6,8,10,12,16,18,15,20,22,24]) ae ?_
  simp only[tt,seval]
  refine cZ (zj t.text hs) ?_ ?_<;>simp only[tt,seval]
  have hk:=uc t.text
  have hgt:decide ((0:Int)<key t.text)=decide (¬key t.text=0):=by rw[decide_eq_decide];omega
  by_cases hz:key t.text=0
  ·simp only[tt,seval,hgt,ax (not_not_intro hz)]
   exact⟨_,_,aR (by rw[aM,if_pos h1,ax (not_not_intro hz)];rfl),am rfl⟩
  ·simp only[tt,seval,hgt,aw hz]
   refine cZ (BQ t.text hs) ?_ ?_<;>simp only[tt,seval]
   exact⟨_,_,aR (by rw[aM,if_pos h1,aw hz];rfl),am rfl⟩
 ·try simp only[tt,seval]
  refine ab (fun h2=>?_) (fun h2=>?_)
  ·skip
   refine cZ (ju t.text) ?_ ?_<;>simp only[tt,seval]
   exact⟨_,_,aR (by rw[aM,if_neg h1,if_pos h2]),am rfl⟩
  ·try simp only[tt,seval]
   refine ab (fun h3=>?_) (fun h3=>?_)
   ·skip
    refine cZ (BX t.text hs) ?_ ?_<;>simp only[tt,seval,oO]
    exact⟨_,_,aR (by rw[aM,if_neg h1,if_neg h2,if_pos h3]),am rfl⟩
   ·try simp only[tt,seval]
    refine ab (fun h4=>?_) (fun h4=>?_)
    ·try simp only[tt,seval]
     refine fun _=>?_
     exact⟨_,_,aR (by rw[aM,if_neg h1,if_neg h2,if_neg h3,if_pos h4];simp only[decide_eq_decide];omega),am rfl⟩
    ·try simp only[tt,seval]
     refine ab (fun h5=>?_) (fun h5=>?_)
     ·skip
      refine cZ (BV t.text) ?_ ?_<;>simp only[tt,seval]
      exact⟨_,_,aR (by rw[aM,if_neg h1,if_neg h2,if_neg h3,if_neg h4,if_pos h5]),am rfl⟩
     ·exact⟨_,_,aR (by rw[aM,if_neg h1,if_neg h2,if_neg h3,if_neg h4,if_neg h5]),am rfl⟩
theorem cu (t:Tok) (hs:t.text.size<=1048576):Cl Tryz.prog 199 [.ag (ar t.row)] [] fun r _=>r=vb (aM t):=by
 rw[Tok.row]
 refine ai ac false Tryz.func199 rfl ae ?_
 simp only[Tryz.f199,tt,seval]
 refine ab (fun h1=>?_) (fun h1=>?_)
 ·skip
  refine dDrawn.intro [] (dC [0,2,5,6,8,10,12,16,18,15,20,22,24]) ae ?_
  simp only[tt,seval]
  refine cZ (nB t.text hs) ?_ ?_<;>simp only[tt,seval]
  have hk:=uc t.text
  have hgt:True:=trivial
  by_cases hz:key t.text=0
  ·simp only[tt,seval,aw hz]
   exact⟨_,_,aR (by rw[aM,if_pos h1,ax (not_not_intro hz)];rfl),am rfl⟩
  ·simp only[tt,seval,ax hz]
   refine cZ (qk t.text hs) ?_ ?_<;>simp only[tt,seval]
   exact⟨_,_,aR (by rw[aM,if_pos h1,aw hz];rfl),am rfl⟩
 ·try simp only[tt,seval]
  refine ab (fun h2=>?_) (fun h2=>?_)
  ·skip
   refine cZ (fX t.text) ?_ ?_<;>simp only[tt,seval]
   exact⟨_,_,aR (by rw[aM,if_neg h1,if_pos h2]),am rfl⟩
  ·try simp only[tt,seval]
   refine ab (fun h3=>?_) (fun h3=>?_)
   ·skip
    refine cZ (tf t.text hs) ?_ ?_<;>simp only[tt,seval,oO]
    exact⟨_,_,aR (by rw[aM,if_neg h1,if_neg h2,if_pos h3]),am rfl⟩
   ·try simp only[tt,seval]
    refine ab (fun h4=>?_) (fun h4=>?_)
    ·try simp only[tt,seval]
     refine fun _=>?_
     exact⟨_,_,aR (by rw[aM,if_neg h1,if_neg h2,if_neg h3,if_pos h4];simp only[decide_eq_decide];omega),am rfl⟩
    ·try simp only[tt,seval]
     refine ab (fun h5=>?_) (fun h5=>?_)
     ·skip
      refine cZ (AE t.text) ?_ ?_<;>simp only[tt,seval]
      exact⟨_,_,aR (by rw[aM,if_neg h1,if_neg h2,if_neg h3,if_neg h4,if_pos h5]),am rfl⟩
     ·exact⟨_,_,aR (by rw[aM,if_neg h1,if_neg h2,if_neg h3,if_neg h4,if_neg h5]),am rfl⟩
theorem vH {s:ByteArray} (h:dm s=true):0<s.size:=by
 simp only[dm,signs,List.any_cons,List.any_nil,Bool.or_false,Bool.or_eq_true,decide_eq_true_eq] at h
 rcases h with h|h|h|h|h|h|h|h|h|h|h|h|h|h|h|h<;>(rw[h];decide)
def cB (t:Tok):ByteArray:=if aM t=false then ⟨#[]⟩ else if t.kind=2 then j5 t.text else if t.kind=4 then ke 39 t.text else t.text
def bB (t:Tok):Bool:=decide (t.kind=1)||(decide (t.kind=3)||(decide (t.kind=2)&&dK t.text))
def cg (t:Tok):Bool:=decide (t.kind=2) && !dK t.text
def AG (a b:Tok):Bool:=
 if ¬a.kind=5 then false else if ¬b.kind=5 then false else
 if a.text=⟨#[45]⟩ then decide (b.text=⟨#[45]⟩) else if a.text=⟨#[47]⟩ then decide (b.text=⟨#[42]⟩) else
 if a.text=⟨#[60]⟩ then (decide (b.text.data.toList.headD 0=61)||decide (b.text.data.toList.headD 0=62)) else if a.text=⟨#[62]⟩ then decide (b.text.data.toList.headD 0=61) else false
def jx (a b:Tok):Bool:=if ((bB a&&bB b)||(cg a&&cg b)||(decide (a.kind=4)&&decide (b.kind=4)))=true then true else AG a b
def jy (a b:Tok):Bool:=if (!(aM a&&aM b))=true then false else jx a b
theorem lj (t:Tok) (hs:t.text.size<=1048576):Cl Tryz.prog 113 [.ag (ar t.row)] [] fun r _=>r=vs (cB t):=by
 rw[Tok.row]
 refine ai ac false Tryz.func113 rfl ae ?_
 simp only[Tryz.f113,tt,seval]
 refine cZ (m8 t hs) ?_ ?_<;>simp only[tt,seval,Tok.row]
 refine ab (fun h=>?_) (fun h=>?_)
 ·have h:aM t=false:=by simpa only[Bool.not_eq_true'] using h
  exact⟨_,_,jt (by rw[cB,if_pos h]),am rfl⟩
 ·have h:¬aM t=false:=by simpa only[Bool.not_eq_false',Bool.not_eq_false] using h
  refine ab (fun h2=>?_) (fun h2=>?_)
  ·skip
   refine cZ (xR t.text hs) ?_ ?_<;>simp only[tt,seval]
   exact⟨_,_,jt (by rw[cB,if_neg h,if_pos h2]),am rfl⟩
  ·try simp only[tt,seval]
   refine ab (fun h4=>?_) (fun h4=>?_)
   ·skip
    refine cZ (vA t.text hs) ?_ ?_<;>simp only[tt,seval]
    exact⟨_,_,jt (by rw[cB,if_neg h,if_neg h2,if_pos h4]),am rfl⟩
   ·exact⟨_,_,jt (by rw[cB,if_neg h,if_neg h2,if_neg h4]),am rfl⟩
theorem kg (t:Tok) (hs:t.text.size<=1048576):Cl Tryz.prog 201 [.ag (ar t.row)] [] fun r _=>r=vs (cB t):=by
 rw[Tok.row]
 refine ai ac false Tryz.func201 rfl ae ?_
 simp only[Tryz.f201,tt,seval]
 refine cZ (cu t hs) ?_ ?_<;>simp only[tt,seval,Tok.row]
 refine ab (fun h=>?_) (fun h=>?_)
 ·have h:aM t=false:=by simpa only[Bool.not_eq_true'] using h
  exact⟨_,_,jt (by rw[cB,if_pos h]),am rfl⟩
 ·have h:¬aM t=false:=by simpa only[Bool.not_eq_false',Bool.not_eq_false] using h
  refine ab (fun h2=>?_) (fun h2=>?_)
  ·skip
   refine cZ (vB t.text hs) ?_ ?_<;>simp only[tt,seval]
   exact⟨_,_,jt (by rw[cB,if_neg h,if_pos h2]),am rfl⟩
  ·try simp only[tt,seval]
   refine ab (fun h4=>?_) (fun h4=>?_)
   ·skip
    refine cZ (nC t.text hs) ?_ ?_<;>simp only[tt,seval]
    exact⟨_,_,jt (by rw[cB,if_neg h,if_neg h2,if_pos h4]),am rfl⟩
   ·exact⟨_,_,jt (by rw[cB,if_neg h,if_neg h2,if_neg h4]),am rfl⟩
theorem qN (t:Tok) (hs:t.text.size<=1048576):Cl Tryz.prog 193 [.ag (ar t.row)] [] fun r _=>r=vb (bB t):=by
 rw[Tok.row]
 refine ai ac false Tryz.func193 rfl ae ?_
 simp only[Tryz.f193,tt,seval]
 by_cases h1:t.kind=1
 ·simp only[tt,seval,h1]
  exact⟨_,_,aR (by rw[bB,aw h1];rfl),am rfl⟩
 ·simp only[tt,seval,ax h1]
  by_cases h3:t.kind=3
  ·simp only[tt,seval,h3]
   exact⟨_,_,aR (by rw[bB,aw h3];simp),am rfl⟩
  ·simp only[tt,seval,ax h3]
   by_cases h2:t.kind=2
   ·simp only[tt,seval,aw h2]
    refine cZ (l5 t.text hs) ?_ ?_<;>simp only[tt,seval]
    exact⟨_,_,aR (by rw[bB,ax h1,ax h3,aw h2];rfl),am rfl⟩
   ·simp only[tt,seval,ax h2]
    exact⟨_,_,aR (by rw[bB,ax h1,ax h3,ax h2];rfl),am rfl⟩
theorem qO (t:Tok) (hs:t.text.size<=1048576):Cl Tryz.prog 204 [.ag (ar t.row)] [] fun r _=>r=vb (bB t):=by
 rw[Tok.row]
 refine ai ac false Tryz.func204 rfl ae ?_
 simp only[Tryz.f204,tt,seval]
 by_cases h1:t.kind=1
 ·simp only[tt,seval,h1]
  exact⟨_,_,aR (by rw[bB,aw h1];rfl),am rfl⟩
 ·simp only[tt,seval,ax h1]
  by_cases h3:t.kind=3
  ·simp only[tt,seval,h3]
   exact⟨_,_,aR (by rw[bB,aw h3];simp),am rfl⟩
  ·simp only[tt,seval,ax h3]
   by_cases h2:t.kind=2
   ·simp only[tt,seval,aw h2]
    refine cZ (kc t.text hs) ?_ ?_<;>simp only[tt,seval]
    exact⟨_,_,aR (by rw[bB,ax h1,ax h3,aw h2];rfl),am rfl⟩
   ·simp only[tt,seval,ax h2]
    exact⟨_,_,aR (by rw[bB,ax h1,ax h3,ax h2];rfl),am rfl⟩
theorem iH (t:Tok) (hs:t.text.size<=1048576):Cl Tryz.prog 194 [.ag (ar t.row)] [] fun r _=>r=vb (cg t):=by
 rw[Tok.row]
 refine ai ac false Tryz.func194 rfl ae ?_
 simp only[Tryz.f194,tt,seval]
 by_cases h2:t.kind=2
 ·simp only[tt,seval,aw h2]
  refine cZ (l5 t.text hs) ?_ ?_<;>simp only[tt,seval]
  exact⟨_,_,aR (by rw[cg,aw h2];rfl),am rfl⟩
 ·simp only[tt,seval,ax h2]
  exact⟨_,_,aR (by rw[cg,ax h2];rfl),am rfl⟩
theorem eD (t:Tok) (hs:t.text.size<=1048576):Cl Tryz.prog 205 [.ag (ar t.row)] [] fun r _=>r=vb (cg t):=by
 rw[Tok.row]
 refine ai ac false Tryz.func205 rfl ae ?_
 simp only[Tryz.f205,tt,seval]
 by_cases h2:t.kind=2
 ·simp only[tt,seval,aw h2]
  refine cZ (kc t.text hs) ?_ ?_<;>simp only[tt,seval]
  exact⟨_,_,aR (by rw[cg,aw h2];rfl),am rfl⟩
 ·simp only[tt,seval,ax h2]
  exact⟨_,_,aR (by rw[cg,ax h2];rfl),am rfl⟩
set_option maxHeartbeats 2000000 in
theorem xT (a b:Tok) (ha:a.text.size<=1048576) (hb:b.text.size<=1048576):Cl Tryz.prog 112 [.ag (ar a.row),.ag (ar b.row)] [] fun r _=>r=vb (jy a b):=by
 obtain⟨l,hl⟩:∃l,l=b.text.data.toList:=⟨_,rfl⟩
 have hll:l.length=b.text.size:=by rw[hl];exact aF b.text
 rw[Tok.row,Tok.row]
 refine ai ac false Tryz.func112 rfl ae ?_
 simp only[Tryz.f112,tt,seval]
 refine cZ (m8 a ha) ?_ ?_<;>simp only[tt,seval,Tok.row]
 cases hoa:aM a with
 |false=>
  simp only[tt,seval]
  exact⟨_,_,aR (by simp only[jy,hoa,Bool.false_and,Bool.not_false,reduceIte]),am rfl⟩
 |true=>
 simp only[tt,seval]
 refine cZ (m8 b hb) ?_ ?_<;>simp only[tt,seval,Tok.row]
 cases hob:aM b with
 |false=>
  simp only[tt,seval]
  exact⟨_,_,aR (by simp only[jy,hoa,hob,Bool.and_false,Bool.not_false,reduceIte]),am rfl⟩
 |true=>
 simp only[tt,seval]
 have g0:jy a b=jx a b:=by simp only[jy,hoa,hob,Bool.and_self,Bool.not_true,Bool.false_eq_true,reduceIte]
 refine cZ (qN a ha) ?_ ?_<;>simp only[tt,seval,Tok.row]
 have hw:(bB a&&bB b)=true->jx a b=true:=fun h=>by simp only[jx,h,Bool.true_or,reduceIte]
 have hq:(cg a&&cg b)=true->jx a b=true:=fun h=>by simp only[jx,h,Bool.true_or,Bool.or_true,reduceIte]
 have ht:(decide (a.kind=4)&&decide (b.kind=4))=true->jx a b=true:=fun h=>by simp only[jx,h,Bool.or_true,reduceIte]
 have he:(bB a&&bB b)=false->(cg a&&cg b)=false->(decide (a.kind=4)&&decide (b.kind=4))=false->jx a b=AG a b:=fun h1 h2 h3=>by simp only[jx,h1,h2,h3,Bool.or_self,Bool.false_eq_true,reduceIte]
 have hpos (h5:b.kind=5):0<l.length:=by
  have:dm b.text=true:=by rw[aM,if_neg aa,if_neg aa,if_neg aa,if_neg aa,if_pos h5] at hob;exact hob
  have:=vH this
  omega
 have heq (hl0:0<l.length) (n:UInt8):decide (b.text.data.toList.headD 0=n)=decide ((l[0].toNat:Int)=n.toNat):=by
  rw[<-hl,decide_eq_decide]
  have:l.headD 0=l[0]:=by cases l with|nil=>exact absurd hl0 (Nat.lt_irrefl _)|cons x r=>rfl
  rw[this,<-UInt8.toNat_inj];omega
 by_cases hww:(bB a&&bB b)=true
 ·have hwa:bB a=true:=by rw[Bool.and_eq_true] at hww;exact hww.1
  have hwb:bB b=true:=by rw[Bool.and_eq_true] at hww;exact hww.2
  simp only[tt,seval,hwa]
  refine cZ (qN b hb) ?_ ?_<;>simp only[tt,seval,Tok.row]
  simp only[tt,seval,hwb]
  exact⟨_,_,aR (by rw[g0,hw hww]),am rfl⟩
 have hww':(bB a&&bB b)=false:=by simpa only[Bool.not_eq_true] using hww
 have hcase:bB a=false∨(bB a=true/\bB b=false):=by cases h:bB a<;>cases h':bB b<;>simp_all
 rcases hcase with hwa|⟨hwa,hwb⟩
 case' inl=>simp only[tt,seval,hwa]
 case' inr=>
  simp only[tt,seval,hwa]
  refine cZ (qN b hb) ?_ ?_<;>simp only[tt,seval,Tok.row]
  simp only[tt,seval,hwb]
 all_goals
  by_cases HTT:(decide (a.kind=4)&&decide (b.kind=4))=true
  ·have hta:a.kind=4:=by rw[Bool.and_eq_true] at HTT;exact of_decide_eq_true HTT.1
   have htb:b.kind=4:=by rw[Bool.and_eq_true] at HTT;exact of_decide_eq_true HTT.2
   simp only[tt,seval,aw hta]
   simp only[tt,seval,htb]
   exact⟨_,_,aR (by rw[g0,ht HTT]),am rfl⟩
  have HT:(decide (a.kind=4)&&decide (b.kind=4))=false:=by simpa only[Bool.not_eq_true] using HTT
  have hcase:¬a.kind=4∨(a.kind=4 /\ ¬b.kind=4):=by cases h:decide (a.kind=4)<;>cases h':decide (b.kind=4)<;>simp_all
  rcases hcase with hta|⟨hta,htb⟩
  case' inl=>simp only[tt,seval,ax hta]
  case' inr=>
   simp only[tt,seval,aw hta]
   simp only[tt,seval,htb]
  all_goals
   by_cases HQQ:(cg a&&cg b)=true
   ·have hqa:cg a=true:=by rw[Bool.and_eq_true] at HQQ;exact HQQ.1
    have hqb:cg b=true:=by rw[Bool.and_eq_true] at HQQ;exact HQQ.2
    refine cZ (iH a ha) ?_ ?_<;>simp only[tt,seval,Tok.row]
    simp only[tt,seval,hqa]
    refine cZ (iH b hb) ?_ ?_<;>simp only[tt,seval,Tok.row]
    simp only[tt,seval,hqb]
    exact⟨_,_,aR (by rw[g0,hq HQQ]),am rfl⟩
   have HQ:(cg a&&cg b)=false:=by simpa only[Bool.not_eq_true] using HQQ
   have hcase:cg a=false∨(cg a=true/\cg b=false):=by cases h:cg a<;>cases h':cg b<;>simp_all
   rcases hcase with hqa|⟨hqa,hqb⟩
   case' inl=>
    refine cZ (iH a ha) ?_ ?_<;>simp only[tt,seval,Tok.row]
    simp only[tt,seval,hqa]
   case' inr=>
    refine cZ (iH a ha) ?_ ?_<;>simp only[tt,seval,Tok.row]
    simp only[tt,seval,hqa]
    refine cZ (iH b hb) ?_ ?_<;>simp only[tt,seval,Tok.row]
    simp only[tt,seval,hqb]
   all_goals
    rw[g0,he hww' HQ HT,AG]
    by_cases h5a:a.kind=5
    ·rw[if_neg (not_not_intro h5a)]
     simp only[tt,seval,aw h5a]
     refine ab (fun h5b=>?_) (fun h5b=>?_)
     ·have h5b:¬b.kind=5:=by simpa only[Bool.not_eq_true',decide_eq_false_iff_not] using h5b
      exact⟨_,_,aR (by rw[if_pos h5b]),am rfl⟩
     ·have h5b:b.kind=5:=by simpa only[Bool.not_eq_false',decide_eq_true_eq] using h5b
      rw[if_neg (not_not_intro h5b)]
      have hl0:=hpos h5b
      refine ab (fun t1=>?_) (fun t1=>?_)
      ·exact⟨_,_,aR (by rw[if_pos t1]),am rfl⟩
      ·try simp only[tt,seval]
       refine ab (fun t2=>?_) (fun t2=>?_)
       ·exact⟨_,_,aR (by rw[if_neg t1,if_pos t2]),am rfl⟩
       ·try simp only[tt,seval]
        refine ab (fun t3=>?_) (fun t3=>?_)
        ·try simp only[tt,seval]
         rw[l4 hl hl0,if_neg t1,if_neg t2,if_pos t3,heq hl0 61,heq hl0 62]
         simp only[tt,seval]
         by_cases hx:(l[0].toNat:Int)=61
         ·simp only[tt,seval,aw hx]
          exact⟨_,_,aR rfl,am rfl⟩
         ·simp only[tt,seval,ax hx]
          rw[l4 hl hl0]
          simp only[tt,seval]
          exact⟨_,_,aR rfl,am rfl⟩
        ·try simp only[tt,seval]
         refine ab (fun t4=>?_) (fun t4=>?_)
         ·try simp only[tt,seval]
          rw[l4 hl hl0,if_neg t1,if_neg t2,if_neg t3,if_pos t4,heq hl0 61]
          simp only[tt,seval]
          exact⟨_,_,aR rfl,am rfl⟩
         ·exact⟨_,_,aR (by rw[if_neg t1,if_neg t2,if_neg t3,if_neg t4]),am rfl⟩
    ·simp only[tt,seval,ax h5a]
     exact⟨_,_,aR (by rw[if_pos h5a]),am rfl⟩
set_option maxHeartbeats 2000000 in
theorem vI (a b:Tok) (ha:a.text.size<=1048576) (hb:b.text.size<=1048576):Cl Tryz.prog 123 [.ag (ar a.row),.ag (ar b.row)] [] fun r _=>r=vb (jy a b):=by
 obtain⟨l,hl⟩:∃l,l=b.text.data.toList:=⟨_,rfl⟩
 have hll:l.length=b.text.size:=by rw[hl];exact aF b.text
 rw[Tok.row,Tok.row]
 refine ai ac false Tryz.func123 rfl ae ?_
 simp only[Tryz.f123,tt,seval]
 refine cZ (cu a ha) ?_ ?_<;>simp only[tt,seval,Tok.row]
 cases hoa:aM a with
 |false=>
  simp only[tt,seval]
  exact⟨_,_,aR (by simp only[jy,hoa,Bool.false_and,Bool.not_false,reduceIte]),am rfl⟩
 |true=>
 simp only[tt,seval]
 refine cZ (cu b hb) ?_ ?_<;>simp only[tt,seval,Tok.row]
 cases hob:aM b with
 |false=>
  simp only[tt,seval]
  exact⟨_,_,aR (by simp only[jy,hoa,hob,Bool.and_false,Bool.not_false,reduceIte]),am rfl⟩
 |true=>
 simp only[tt,seval]
 have g0:jy a b=jx a b:=by simp only[jy,hoa,hob,Bool.and_self,Bool.not_true,Bool.false_eq_true,reduceIte]
 refine cZ (qO a ha) ?_ ?_<;>simp only[tt,seval,Tok.row]
 have hw:(bB a&&bB b)=true->jx a b=true:=fun h=>by simp only[jx,h,Bool.true_or,reduceIte]
 have hq:(cg a&&cg b)=true->jx a b=true:=fun h=>by simp only[jx,h,Bool.true_or,Bool.or_true,reduceIte]
 have ht:(decide (a.kind=4)&&decide (b.kind=4))=true->jx a b=true:=fun h=>by simp only[jx,h,Bool.or_true,reduceIte]
 have he:(bB a&&bB b)=false->(cg a&&cg b)=false->(decide (a.kind=4)&&decide (b.kind=4))=false->jx a b=AG a b:=fun h1 h2 h3=>by simp only[jx,h1,h2,h3,Bool.or_self,Bool.false_eq_true,reduceIte]
 have hpos (h5:b.kind=5):0<l.length:=by
  have:dm b.text=true:=by rw[aM,if_neg aa,if_neg aa,if_neg aa,if_neg aa,if_pos h5] at hob;exact hob
  have:=vH this
  omega
 have heq (hl0:0<l.length) (n:UInt8):decide (b.text.data.toList.headD 0=n)=decide ((l[0].toNat:Int)=n.toNat):=by
  rw[<-hl,decide_eq_decide]
  have:l.headD 0=l[0]:=by cases l with|nil=>exact absurd hl0 (Nat.lt_irrefl _)|cons x r=>rfl
  rw[this,<-UInt8.toNat_inj];omega
 by_cases hww:(bB a&&bB b)=true
 ·have hwa:bB a=true:=by rw[Bool.and_eq_true] at hww;exact hww.1
  have hwb:bB b=true:=by rw[Bool.and_eq_true] at hww;exact hww.2
  simp only[tt,seval,hwa]
  refine cZ (qO b hb) ?_ ?_<;>simp only[tt,seval,Tok.row]
  simp only[tt,seval,hwb]
  exact⟨_,_,aR (by rw[g0,hw hww]),am rfl⟩
 have hww':(bB a&&bB b)=false:=by simpa only[Bool.not_eq_true] using hww
 have hcase:bB a=false∨(bB a=true/\bB b=false):=by cases h:bB a<;>cases h':bB b<;>simp_all
 rcases hcase with hwa|⟨hwa,hwb⟩
 case' inl=>simp only[tt,seval,hwa]
 case' inr=>
  simp only[tt,seval,hwa]
  refine cZ (qO b hb) ?_ ?_<;>simp only[tt,seval,Tok.row]
  simp only[tt,seval,hwb]
 all_goals
  by_cases HQQ:(cg a&&cg b)=true
  ·have hqa:cg a=true:=by rw[Bool.and_eq_true] at HQQ;exact HQQ.1
   have hqb:cg b=true:=by rw[Bool.and_eq_true] at HQQ;exact HQQ.2
   refine cZ (eD a ha) ?_ ?_<;>simp only[tt,seval,Tok.row]
   simp only[tt,seval,hqa]
   refine cZ (eD b hb) ?_ ?_<;>simp only[tt,seval,Tok.row]
   simp only[tt,seval,hqb]
   exact⟨_,_,aR (by rw[g0,hq HQQ]),am rfl⟩
  have HQ:(cg a&&cg b)=false:=by simpa only[Bool.not_eq_true] using HQQ
  have hcase:cg a=false∨(cg a=true/\cg b=false):=by cases h:cg a<;>cases h':cg b<;>simp_all
  rcases hcase with hqa|⟨hqa,hqb⟩
  case' inl=>
   refine cZ (eD a ha) ?_ ?_<;>simp only[tt,seval,Tok.row]
   simp only[tt,seval,hqa]
  case' inr=>
   refine cZ (eD a ha) ?_ ?_<;>simp only[tt,seval,Tok.row]
   simp only[tt,seval,hqa]
   refine cZ (eD b hb) ?_ ?_<;>simp only[tt,seval,Tok.row]
   simp only[tt,seval,hqb]
  all_goals
   by_cases HTT:(decide (a.kind=4)&&decide (b.kind=4))=true
   ·have hta:a.kind=4:=by rw[Bool.and_eq_true] at HTT;exact of_decide_eq_true HTT.1
    have htb:b.kind=4:=by rw[Bool.and_eq_true] at HTT;exact of_decide_eq_true HTT.2
    simp only[tt,seval,aw hta]
    simp only[tt,seval,htb]
    exact⟨_,_,aR (by rw[g0,ht HTT]),am rfl⟩
   have HT:(decide (a.kind=4)&&decide (b.kind=4))=false:=by simpa only[Bool.not_eq_true] using HTT
   have hcase:¬a.kind=4∨(a.kind=4 /\ ¬b.kind=4):=by cases h:decide (a.kind=4)<;>cases h':decide (b.kind=4)<;>simp_all
   rcases hcase with hta|⟨hta,htb⟩
   case' inl=>simp only[tt,seval,ax hta]
   case' inr=>
    simp only[tt,seval,aw hta]
    simp only[tt,seval,htb]
   all_goals
    rw[g0,he hww' HQ HT,AG]
    by_cases h5a:a.kind=5
    ·rw[if_neg (not_not_intro h5a)]
     simp only[tt,seval,aw h5a]
     refine ab (fun h5b=>?_) (fun h5b=>?_)
     ·have h5b:¬b.kind=5:=by simpa only[Bool.not_eq_true',decide_eq_false_iff_not] using h5b
      exact⟨_,_,aR (by rw[if_pos h5b]),am rfl⟩
     ·have h5b:b.kind=5:=by simpa only[Bool.not_eq_false',decide_eq_true_eq] using h5b
      rw[if_neg (not_not_intro h5b)]
      have hl0:=hpos h5b
      refine ab (fun t1=>?_) (fun t1=>?_)
      ·exact⟨_,_,aR (by rw[if_pos t1]),am rfl⟩
      ·try simp only[tt,seval]
       refine ab (fun t2=>?_) (fun t2=>?_)
       ·exact⟨_,_,aR (by rw[if_neg t1,if_pos t2]),am rfl⟩
       ·try simp only[tt,seval]
        refine ab (fun t3=>?_) (fun t3=>?_)
        ·try simp only[tt,seval]
         rw[l4 hl hl0,if_neg t1,if_neg t2,if_pos t3,heq hl0 61,heq hl0 62]
         simp only[tt,seval]
         by_cases hx:(l[0].toNat:Int)=61
         ·simp only[tt,seval,aw hx]
          exact⟨_,_,aR rfl,am rfl⟩
         ·simp only[tt,seval,ax hx]
          rw[l4 hl hl0]
          simp only[tt,seval]
          exact⟨_,_,aR rfl,am rfl⟩
        ·try simp only[tt,seval]
         refine ab (fun t4=>?_) (fun t4=>?_)
         ·try simp only[tt,seval]
          rw[l4 hl hl0,if_neg t1,if_neg t2,if_neg t3,if_pos t4,heq hl0 61]
          simp only[tt,seval]
          exact⟨_,_,aR rfl,am rfl⟩
         ·exact⟨_,_,aR (by rw[if_neg t1,if_neg t2,if_neg t3,if_neg t4]),am rfl⟩
    ·simp only[tt,seval,ax h5a]
     exact⟨_,_,aR (by rw[if_pos h5a]),am rfl⟩
def jn (l:List Tok) (i:Nat):List UInt8:=if h:i<l.length then (if 0<i/\jy (l[i-1]'(by omega)) l[i]=true then [32] else [])++(cB l[i]).data.toList else []
def dT (l:List Tok) (k:Nat):List UInt8:=(List.range k).flatMap (jn l)
theorem df (l:List Tok) (k:Nat):dT l (k+1)=dT l k++jn l k:=by
 unfold dT
 rw[List.range_succ,List.flatMap_append];simp
theorem qP (l:List Tok) {k m:Nat} (h:k<=m):(dT l k).length<=(dT l m).length:=by
 induction m with
 |zero=>rw[Nat.le_zero.1 h];exact Nat.le_refl _
 |succ m ih=>
  by_cases e:k=m+1
  ·subst e;exact Nat.le_refl _
  ·rw[df,aB];exact Nat.le_trans (ih aa) (Nat.le_add_right _ _)
theorem BZ (l:List Tok) {i:Nat} (h:i<l.length):jn l i=(if 0<i/\jy (l[i-1]'(by omega)) l[i]=true then [32] else [])++(cB l[i]).data.toList:=dif_pos h
def bf (l:List Tok):ByteArray:=if l.all aM=true then (if 2000<(dT l l.length).length then ⟨#[]⟩ else ⟨(dT l l.length).toArray⟩) else ⟨#[]⟩
theorem qQ {l:List Tok} {i:Nat} (h:i<l.length) (hb:aM l[i]=false):bf l=⟨#[]⟩:=by
 unfold bf
 refine if_neg fun ha=>?_
 have:=List.all_eq_true.1 ha _ (aJ h)
 rw[hb] at this;cases this
theorem C0 {l:List Tok} (h:∀j (hj:j<l.length),aM l[j]=true):l.all aM=true:=List.all_eq_true.2 fun x hx=>by
 obtain⟨j,hj,rfl⟩:=List.mem_iff_getElem.1 hx
 exact h j hj
theorem AH:([.lit (.int .u8 32)]:List D)=aL [32]:=rfl
theorem C1 (l:List Tok) (hT:∀t∈l,t.text.size<=1048576) (hb:(dT l l.length).length<=50000000):Cl Tryz.prog 47 [.c (.sl l.length (l.flatMap Tok.row) none),vb false] [] fun r _=>r=vs (bf l):=by
 refine ai ac false Tryz.func47 rfl ae ?_
 simp only[Tryz.f47,tt,seval]
 refine dLoop.gh [.ren 7 46] ⟨ah,ah,?_⟩
 refine dLoop0.intro (fun f L p=>∃(i:Nat) (bs:List UInt8),f 6=vi i/\f 5 = .c (.s 46 bs.length)/\i<=l.length/\bs=dT l i/\(∀j (hj:j<l.length),j<i->aM l[j]=true)/\L=[(46,.arr 5 bs.length (aL bs) none)]/\p=none) (fun f _ _=>(l.length-eN (f 6)).toNat) [(46,.arr 5 0 (aL []) none)] none ⟨al rfl (ao _),aq _,?_⟩ ?_
 ·simp only[tt,seval]
  exact⟨0,[],rfl,rfl,aa,rfl,fun j _ h=>absurd h (Nat.not_lt_zero _),rfl⟩
 ·rintro g L p ⟨i,bs,h6,h5,hi,hbs,hok,rfl,rfl⟩
  simp only[tt,seval] at h6 h5
  simp only[tt,seval,h6,h5,Int.ofNat_lt]
  refine fun _=>ab (fun hlt=>?_) (fun hge=>?_)
  ·have hsz:bs.length+(jn l i).length<=50000000:=by
    have:=qP l (show i+1<=l.length by omega)
    rw[df,aB] at this
    rw[hbs];omega
   have hjn:=BZ l hlt
   have htx:=hT _ (aJ hlt)
   refine⟨aa,aa,_,aD Tok.row_len (aA hlt),Tok.ne _ _,?_⟩
   simp only[seval,Tok.tk]
   refine cZ (m8 l[i] htx) ?_ ?_<;>simp only[tt,seval,Tok.row]
   refine ab (fun hbad=>?_) (fun hgood=>?_)
   ·exact⟨_,_,jt (qQ hlt (by simpa only[Bool.not_eq_true'] using hbad)).symm,am rfl⟩
   ·have hgood:aM l[i]=true:=by simpa only[Bool.not_eq_false'] using hgood
    have hok':∀j (hj:j<l.length),j<i+1->aM l[j]=true:=fun j hj hji=>by
     by_cases e:j=i
     ·subst e;exact hgood
     ·exact hok j hj aa
    refine dDrawn.intro [] (dC [0,2,4,6,8,10,12,14,16,18,20,22,24,26,29,30,32]) ae ?_
    simp only[tt,seval]
    simp only[tt,seval,h6]
    have nogap (hng:¬(0<i/\jy (l[i-1]'(by omega)) l[i]=true)):jn l i=(cB l[i]).data.toList:=by rw[hjn,if_neg hng];rfl
    by_cases hi0:(0:Int)<i
    ·have hlt1:i-1<l.length:=by omega
     simp only[tt,seval,aw hi0,h6]
     rw[aC (n:=(i:Int)-1) aa aa,show (i:Int)-1=((i-1:Nat):Int) by omega]
     refine⟨aa,aa,_,aD Tok.row_len (aA hlt1),Tok.ne _ _,?_⟩
     simp only[tt,seval,Tok.tk]
     refine⟨aa,aa,_,aD Tok.row_len (aA hlt),Tok.ne _ _,?_⟩
     simp only[seval,Tok.tk]
     refine cZ (xT (l[i-1]'hlt1) l[i] (hT _ (aJ hlt1)) htx) ?_ ?_<;>simp only[tt,seval,h6,h5,Tok.row]
     cases hgp:jy (l[i-1]'hlt1) l[i] with
     |true=>
      have hjn':jn l i=[32]++(cB l[i]).data.toList:=by rw[hjn,if_pos ⟨aa,hgp⟩]
      have hsz':bs.length+1+(cB l[i]).size<=50000000:=by rw[hjn',aB,aF] at hsz;simp only[List.length_singleton] at hsz;omega
      simp only[tt,seval]
      refine qj ?_
      rw[AH]
      refine⟨aa,aa,_,aD Tok.row_len (aA hlt),Tok.ne _ _,?_⟩
      simp only[seval,Tok.tk]
      refine cZ (lj l[i] htx) ?_ ?_<;>simp only[tt,seval,h6,Tok.row]
      refine⟨ae,by rw[fY,aF,Nat.mul_one],⟨by simp only[maxLen];omega,aa⟩,?_⟩
      have e:((bs++[32])++(cB l[i]).data.toList).length=bs.length+1+(cB l[i]).size:=by rw[aB,aF];simp
      rw[iC,iC,<-e,aC (n:=(i:Int)+1) aa aa]
      exact⟨_,none,al rfl (ao _),aq _,⟨i+1,_,rfl,rfl,aa,by rw[df,hjn',hbs,aK],hok',rfl,rfl⟩,az⟩
     |false=>
      simp only[tt,seval]
      have hjn':=nogap (by rw[hgp];simp)
      have hsz':bs.length+(cB l[i]).size<=50000000:=by rw[hjn',aF] at hsz;omega
      refine⟨aa,aa,_,aD Tok.row_len (aA hlt),Tok.ne _ _,?_⟩
      simp only[seval,Tok.tk]
      refine cZ (lj l[i] htx) ?_ ?_<;>simp only[tt,seval,h6,Tok.row]
      refine⟨ae,by rw[fY,aF,Nat.mul_one],⟨by simp only[maxLen];omega,aa⟩,?_⟩
      have e:(bs++(cB l[i]).data.toList).length=bs.length+(cB l[i]).size:=by rw[aB,aF]
      rw[iC,<-e,aC (n:=(i:Int)+1) aa aa]
      exact⟨_,none,al rfl (ao _),aq _,⟨i+1,_,rfl,rfl,aa,by rw[df,hjn',hbs],hok',rfl,rfl⟩,az⟩
    ·simp only[tt,seval,ax hi0,h6,h5]
     have hjn':=nogap aa
     have hsz':bs.length+(cB l[i]).size<=50000000:=by rw[hjn',aF] at hsz;omega
     refine⟨aa,aa,_,aD Tok.row_len (aA hlt),Tok.ne _ _,?_⟩
     simp only[seval,Tok.tk]
     refine cZ (lj l[i] htx) ?_ ?_<;>simp only[tt,seval,h6,Tok.row]
     refine⟨ae,by rw[fY,aF,Nat.mul_one],⟨by simp only[maxLen];omega,aa⟩,?_⟩
     have e:(bs++(cB l[i]).data.toList).length=bs.length+(cB l[i]).size:=by rw[aB,aF]
     rw[iC,<-e,aC (n:=(i:Int)+1) aa aa]
     exact⟨_,none,al rfl (ao _),aq _,⟨i+1,_,rfl,rfl,aa,by rw[df,hjn',hbs],hok',rfl,rfl⟩,az⟩
  ·have hie:i=l.length:=by omega
   subst hie
   have hall:=C0 fun j hj=>hok j hj hj
   refine fun _=>ab (fun h2=>?_) (fun h2=>?_)
   ·exact⟨_,_,jt (by rw[bf,if_pos hall,if_pos (by rw[<-hbs];omega)]),am rfl⟩
   ·try simp only[tt,seval]
    refine⟨ae,by simp only[maxLen];omega,bs,rfl,rfl,?_⟩
    simp only[tt,seval]
    exact⟨_,_,jt (by rw[bf,if_pos hall,if_neg (by rw[<-hbs];omega),hbs]),am rfl⟩
theorem vJ (l:List Tok) (hT:∀t∈l,t.text.size<=1048576) (hb:(dT l l.length).length<=50000000):Cl Tryz.prog 14 [.c (.sl l.length (l.flatMap Tok.row) none)] [] fun r _=>r=vs (bf l):=by
 refine ai ac false Tryz.func14 rfl ae ?_
 simp only[Tryz.f14,tt,seval]
 refine cZ (C1 l hT hb) ?_ ?_<;>simp only[tt,seval]
 exact⟨_,_,rfl,am rfl⟩
theorem uh (a:List UInt8) (s:ByteArray):a.length+s.size=(a++s.data.toList).length:=by rw[aB,aF]
theorem Ix (n:Nat) (ds:List D):Cl Tryz.prog 202 [.c (.p 9000 0)] [[.self,.ow 5 n ds none]] fun r os=>r=vi n/\os=[[.self,.ow 5 n ds none]]:=by
 refine ai ac false Tryz.func202 rfl ae ?_
 simp only[Tryz.f202,tt,seval]
 refine fun _=>⟨vi n,[[.self,.ow 5 n ds none]],⟨rfl,rfl⟩,ap ?_⟩
 simp only[tt,seval]
theorem C2 (l:List Tok) (hT:∀t∈l,t.text.size<=1048576) (hb:(dT l l.length).length<=50000000):Cl Tryz.prog 122 [.c (.sl l.length (l.flatMap Tok.row) none),.c (.fn 123 [] [])] [] fun r _=>r=vs (bf l):=by
 refine ai ac false Tryz.func122 rfl ae ?_
 simp only[Tryz.f122,tt,seval]
 refine fun _=>?_
 refine dLoop.gh [.virtC 5 1 10010034 5] ⟨ah,?_⟩
 simp only[tt,seval]
 refine dLoop0.intro (fun f L p=>∃(i:Nat) (bs:List UInt8) (F:Fp),f 11=vi i/\i<=l.length/\bs=dT l i/\(∀j (hj:j<l.length),j<i->aM l[j]=true)/\L=[(5,.str [.self,.s 10010034 bs.length]),(10010034,.arr 5 bs.length (aL bs) F)]/\p=none) (fun f _ _=>(l.length-eN (f 11)).toNat) [(5,.str [.self,.s 10010034 0]),(10010034,.arr 5 0 (aL []) (some []))] none ⟨al rfl (al rfl (ao _)),aq _,?_⟩ ?_
 ·simp only[tt,seval]
  exact⟨0,[],some [],rfl,aa,rfl,fun j _ h=>absurd h (Nat.not_lt_zero _),rfl⟩
 ·rintro g L p ⟨i,bs,F,h11,hi,hbs,hok,rfl,rfl⟩
  simp only[tt,seval] at h11
  simp only[tt,seval,h11,Int.ofNat_lt]
  refine ab (fun hlt=>?_) (fun hge=>?_)
  ·have hsz:bs.length+(jn l i).length<=50000000:=by
    have:=qP l (show i+1<=l.length by omega)
    rw[df,aB] at this
    rw[hbs];omega
   have hjn:=BZ l hlt
   have htx:=hT _ (aJ hlt)
   refine⟨aa,aa,_,aD Tok.row_len (aA hlt),Tok.ne _ _,?_⟩
   simp only[tt,seval,Tok.row]
   refine cZ (cu l[i] htx) ?_ ?_<;>simp only[tt,seval,Tok.row]
   refine ab (fun hbad=>?_) (fun hgood=>?_)
   ·exact⟨_,_,jt (qQ hlt (by simpa only[Bool.not_eq_true'] using hbad)).symm,am rfl⟩
   ·have hgood:aM l[i]=true:=by simpa only[Bool.not_eq_false'] using hgood
    have hok':∀j (hj:j<l.length),j<i+1->aM l[j]=true:=fun j hj hji=>by
     by_cases e:j=i
     ·subst e;exact hgood
     ·exact hok j hj aa
    refine dDrawn.intro [] (dC [0,2,4,6,8,10,12,14,16,18,21,22]) ae ?_
    simp only[tt,seval]
    have nogap (hng:¬(0<i/\jy (l[i-1]'(by omega)) l[i]=true)):jn l i=(cB l[i]).data.toList:=by rw[hjn,if_neg hng];rfl
    by_cases hi0:(0:Int)<i
    ·have hlt1:i-1<l.length:=by omega
     simp only[tt,seval,aw hi0]
     rw[aC (n:=(i:Int)-1) aa aa,show (i:Int)-1=((i-1:Nat):Int) by omega]
     refine⟨aa,aa,_,aD Tok.row_len (aA hlt1),Tok.ne _ _,?_⟩
     simp only[tt,seval,Tok.tk]
     refine cZ (vI (l[i-1]'hlt1) l[i] (hT _ (aJ hlt1)) htx) ?_ ?_<;>simp only[tt,seval,Tok.row]
     cases hgp:jy (l[i-1]'hlt1) l[i] with
     |true=>
      have hjn':jn l i=[32]++(cB l[i]).data.toList:=by rw[hjn,if_pos ⟨aa,hgp⟩]
      have hsz':bs.length+1+(cB l[i]).size<=50000000:=by rw[hjn',aB,aF] at hsz;simp only[List.length_singleton] at hsz;omega
      simp only[tt,seval]
      refine cS (gC bs ⟨#[32]⟩ (by show bs.length+1<=_;omega)) ?_ ?_<;>simp only[tt,seval]
      refine cZ (kg l[i] htx) ?_ ?_<;>simp only[tt,seval,Tok.row]
      have e1:bs.length+(⟨#[32]⟩:ByteArray).size=(bs++(⟨#[32]⟩:ByteArray).data.toList).length:=by rw[aB];rfl
      rw[e1]
      refine cS (gC (bs++(⟨#[32]⟩:ByteArray).data.toList) (cB l[i]) (by rw[<-e1];show bs.length+1+_<=_;omega)) ?_ ?_<;>simp only[tt,seval,h11]
      rw[uh (bs++[32]) (cB l[i]),aC (n:=(i:Int)+1) aa aa]
      exact⟨[(5,.str [.self,.s 10010034 ((bs++[32])++(cB l[i]).data.toList).length]),(10010034,.arr 5 ((bs++[32])++(cB l[i]).data.toList).length (aL ((bs++[32])++(cB l[i]).data.toList)) none)],none,al rfl (al rfl (ao _)),aq _,⟨i+1,_,none,rfl,aa,by rw[df,hjn',hbs,aK],hok',rfl,rfl⟩,az⟩
     |false=>
      have hjn':=nogap (by rw[hgp];simp)
      have hsz':bs.length+(cB l[i]).size<=50000000:=by rw[hjn',aF] at hsz;omega
      simp only[tt,seval]
      refine cZ (kg l[i] htx) ?_ ?_<;>simp only[tt,seval,Tok.row]
      refine cS (gC bs (cB l[i]) aa) ?_ ?_<;>simp only[tt,seval,h11]
      rw[uh bs (cB l[i]),aC (n:=(i:Int)+1) aa aa]
      exact⟨[(5,.str [.self,.s 10010034 (bs++(cB l[i]).data.toList).length]),(10010034,.arr 5 (bs++(cB l[i]).data.toList).length (aL (bs++(cB l[i]).data.toList)) none)],none,al rfl (al rfl (ao _)),aq _,⟨i+1,_,none,rfl,aa,by rw[df,hjn',hbs],hok',rfl,rfl⟩,az⟩
    ·have hjn':=nogap aa
     have hsz':bs.length+(cB l[i]).size<=50000000:=by rw[hjn',aF] at hsz;omega
     simp only[tt,seval,ax hi0]
     refine cZ (kg l[i] htx) ?_ ?_<;>simp only[tt,seval,Tok.row]
     refine cS (gC bs (cB l[i]) aa) ?_ ?_<;>simp only[tt,seval,h11]
     rw[uh bs (cB l[i]),aC (n:=(i:Int)+1) aa aa]
     exact⟨[(5,.str [.self,.s 10010034 (bs++(cB l[i]).data.toList).length]),(10010034,.arr 5 (bs++(cB l[i]).data.toList).length (aL (bs++(cB l[i]).data.toList)) none)],none,al rfl (al rfl (ao _)),aq _,⟨i+1,_,none,rfl,aa,by rw[df,hjn',hbs],hok',rfl,rfl⟩,az⟩
  ·have hie:i=l.length:=by omega
   subst hie
   have hall:=C0 fun j hj=>hok j hj hj
   have hbl:bs.length<=50000000:=by rw[hbs];exact hb
   refine cS (Ix bs.length (aL bs)) ?_ ?_<;>simp only[tt,seval]
   refine ab (fun h2=>?_) (fun h2=>?_)
   ·exact⟨_,_,jt (by rw[bf,if_pos hall,if_pos (by rw[<-hbs];omega)]),am rfl⟩
   ·try simp only[tt,seval,h11]
    refine cS (BU bs aa) ?_ ?_<;>simp only[tt,seval]
    exact⟨_,_,jt (by rw[bf,if_pos hall,if_neg (by rw[<-hbs];omega),hbs]),am rfl⟩
theorem tg (l:List Tok) (hT:∀t∈l,t.text.size<=1048576) (hb:(dT l l.length).length<=50000000):Cl Tryz.prog 50 [.c (.sl l.length (l.flatMap Tok.row) none)] [] fun r _=>r=vs (bf l):=by
 refine ai ac false Tryz.func50 rfl ae ?_
 simp only[Tryz.f50,tt,seval]
 refine cZ (C2 l hT hb) ?_ ?_<;>simp only[tt,seval]
 exact⟨_,_,rfl,am rfl⟩
def Expr.kind:Expr->Int | .mk k _ _ _ _ _ _ _=>k
def Expr.op:Expr->Int | .mk _ o _ _ _ _ _ _=>o
def Expr.kids:Expr->List Expr | .mk _ _ _ _ _ _ k _=>k
def Expr.sub:Expr->List Query | .mk _ _ _ _ _ _ _ s=>s
def bl (op:Int):Int:=if op=1 then 1 else if op=2 then 2 else if 3<=op/\op<=8 then 4 else if op=9 then 5 else if op=10∨op=11 then 6 else if 12<=op/\op<=14 then 7 else 0
def lv (k op:Int):Int:=if k=4 then bl op else if k=3 then (if op=15 then 3 else if op=16 then 8 else 0) else if 5<=k/\k<=8 then 4 else if k=1∨k=2∨k=9 then 9 else 0
def nv (e:Expr):Int:=lv e.kind e.op
theorem mb (k op:Int):0<=lv k op/\lv k op<=9:=by unfold lv bl;(repeat' split)<;>omega
def nd (kind op:Int) (k:Nat):Int:=if lv kind op=0∨lv kind op=9 then 0 else if kind=4 then (if lv kind op=4 then 5 else if k=0 then lv kind op else lv kind op+1) else if kind=3 then lv kind op else if kind=7/\0<k then 1 else 5
def lp (kind op:Int) (kids:List Expr) (k:Nat):Bool:=decide (nv (kids.getD k (.mk 0 0 false ⟨0,0,⟨#[]⟩⟩ ⟨#[]⟩ ⟨#[]⟩ [] []))<nd kind op k)
theorem xU (op:Int):Cl Tryz.prog 253 [vi op] [] fun r _=>r=vi (bl op):=by
 refine ai ac false Tryz.func253 rfl ae ?_
 simp only[Tryz.f253,tt,seval]
 all_goals repeat' first|(refine ab (fun h=>?_) (fun h=>?_)<;>try simp only[tt,seval])|(intro _;try simp only[tt,seval])
 all_goals first|contradiction|exact⟨_,_,kK (by subst_vars;rfl),am rfl⟩|exact⟨_,_,kK (by unfold bl;(repeat' split)<;>omega),am rfl⟩
theorem mH (e:Expr):Cl Tryz.prog 214 [.ag (ar e.row)] [] fun r _=>r=vi (nv e):=by
 obtain⟨kind,op,not,val,qual,name,kids,sub⟩:=e
 rw[Expr.row_mk,nv,Expr.kind,Expr.op]
 refine ai ac false Tryz.func214 rfl ae ?_
 simp only[Tryz.f214,tt,seval]
 refine ab (fun h4=>?_) (fun h4=>?_)
 ·skip
  refine cZ (xU op) ?_ ?_<;>simp only[tt,seval]
  exact⟨_,_,kK (by rw[lv,if_pos h4]),am rfl⟩
 all_goals repeat' first|(refine ab (fun h=>?_) (fun h=>?_)<;>try simp only[tt,seval])|(intro _;try simp only[tt,seval])
 all_goals exact⟨_,_,kK (by unfold lv;(repeat' split)<;>omega),am rfl⟩
def Jp:List Int:=[0,1,2,4,4,4,4,4,4,5,6,6,7,7,7]
theorem Eo:([.lit (.int .i64 0),.lit (.int .i64 1),.lit (.int .i64 2),.lit (.int .i64 4),.lit (.int .i64 4),.lit (.int .i64 4),.lit (.int .i64 4),.lit (.int .i64 4),.lit (.int .i64 4),.lit (.int .i64 5),.lit (.int .i64 6),.lit (.int .i64 6),.lit (.int .i64 7),.lit (.int .i64 7),.lit (.int .i64 7)]:List D)=Jp.flatMap irow:=rfl
theorem vK (n:Int):(irow n).length=1:=rfl
theorem Ep (v:Int) (r:List D):irow v++r≠[]:=fun h=>by cases h
theorem Er:∀n:Fin 15,1<=n.1->Jp[n.1]'n.2=bl n.1:=by decide
theorem oP (e:Expr):Cl Tryz.prog 216 [.ag (ar e.row)] [] fun r _=>r=vi (nv e):=by
 obtain⟨kind,op,not,val,qual,name,kids,sub⟩:=e
 rw[Expr.row_mk,nv,Expr.kind,Expr.op]
 refine ai ac false Tryz.func216 rfl ae ?_
 simp only[Tryz.f216,tt,seval]
 all_goals repeat' first|(refine ab (fun h=>?_) (fun h=>?_)<;>try simp only[tt,seval])|(intro _;try simp only[tt,seval])
 all_goals first|contradiction|exact⟨_,_,kK (by unfold lv;(repeat' split)<;>omega),am rfl⟩|skip
 have h4:kind=4:=by assumption
 refine cZ (dr op 1 14) ?_ ?_<;>simp only[tt,seval]
 refine ab (fun hc=>?_) (fun hc=>?_)
 ·have hc:1<=op/\op<=14:=by simpa only[decide_eq_true_eq] using hc
  have hlt:op.toNat<Jp.length:=by show _<15;omega
  refine⟨aa,aa,?_⟩
  rw[Eo,aD vK (aA hlt)]
  simp only[tt,seval,irow]
  exact⟨_,_,kK (by rw[lv,if_pos h4];exact (Er ⟨op.toNat,hlt⟩ (by show 1<=op.toNat;omega)).trans (congrArg bl (Int.toNat_of_nonneg (show 0<=op by omega)))),am rfl⟩
 ·exact⟨_,_,kK (by rw[lv,if_pos h4];unfold bl;have:¬(1<=op/\op<=14):=(by simpa only[decide_eq_false_iff_not,decide_eq_true_eq] using hc);(repeat' split)<;>omega),am rfl⟩
theorem Et (kind op:Int) (not:Bool) (val:Val) (qual name:ByteArray) (kids:List Expr) (sub:List Query) (k:Nat) (hk:k<kids.length):Cl Tryz.prog 254 [.ag (ar (Expr.mk kind op not val qual name kids sub).row),vi k] [] fun r _=>r=vi (nd kind op k):=by
 rw[Expr.row_mk]
 refine ai ac false Tryz.func254 rfl ae ?_
 simp only[Tryz.f254,tt,seval]
 refine cZ (oP (Expr.mk kind op not val qual name kids sub)) ?_ ?_<;>simp only[tt,seval,Expr.row_mk,nv,Expr.kind,Expr.op]
 have hb:=mb kind op
 refine fun hlen=>?_
 rw[aC (n:=(kids.length:Int)-1) aa aa]
 refine cZ (dr k 0 (kids.length-1)) ?_ ?_<;>simp only[tt,seval]
 simp only[tt,seval,aw (show (0:Int)<=k/\(k:Int)<=(kids.length:Int)-1 by omega)]
 by_cases l0:lv kind op=0
 ·simp only[tt,seval,aw l0]
  exact⟨_,_,kK (by rw[nd,if_pos (Or.inl l0)]),am rfl⟩
 simp only[tt,seval,ax l0]
 refine ab (fun l9=>?_) (fun l9=>?_)
 ·exact⟨_,_,kK (by rw[nd,if_pos (Or.inr l9)]),am rfl⟩
 have e:nd kind op k=if kind=4 then (if lv kind op=4 then 5 else if k=0 then lv kind op else lv kind op+1) else if kind=3 then lv kind op else if kind=7/\0<k then 1 else 5:=by rw[nd,if_neg aa]
 rw[e,aC (n:=lv kind op+1) aa aa]
 all_goals repeat' first|(refine ab (fun h=>?_) (fun h=>?_)<;>try simp only[tt,seval])|(intro _;try simp only[tt,seval])
 all_goals first|contradiction|exact⟨_,_,kK (by (repeat' split)<;>omega),am rfl⟩
theorem C3 (kind op:Int) (not:Bool) (val:Val) (qual name:ByteArray) (kids:List Expr) (sub:List Query) (k:Nat) (hk:k<kids.length):Cl Tryz.prog 252 [.ag (ar (Expr.mk kind op not val qual name kids sub).row),vi k] [] fun r _=>r=vi (nd kind op k):=by
 rw[Expr.row_mk]
 refine ai ac false Tryz.func252 rfl ae ?_
 simp only[Tryz.f252,tt,seval]
 refine cZ (mH (Expr.mk kind op not val qual name kids sub)) ?_ ?_<;>simp only[tt,seval,Expr.row_mk,nv,Expr.kind,Expr.op]
 have hb:=mb kind op
 simp only[tt,seval,ax (show ¬(k:Int)<0 by omega)]
 refine fun hlen=>?_
 simp only[tt,seval,ax (show ¬(kids.length:Int)<=k by omega)]
 by_cases l0:lv kind op=0
 ·simp only[tt,seval,aw l0]
  exact⟨_,_,kK (by rw[nd,if_pos (Or.inl l0)]),am rfl⟩
 simp only[tt,seval,ax l0]
 refine ab (fun l9=>?_) (fun l9=>?_)
 ·exact⟨_,_,kK (by rw[nd,if_pos (Or.inr l9)]),am rfl⟩
 have e:nd kind op k=if kind=4 then (if lv kind op=4 then 5 else if k=0 then lv kind op else lv kind op+1) else if kind=3 then lv kind op else if kind=7/\0<k then 1 else 5:=by rw[nd,if_neg aa]
 rw[e]
 all_goals repeat' first|(refine ab (fun h=>?_) (fun h=>?_)<;>try simp only[tt,seval])|(intro _;try simp only[tt,seval])
 all_goals try rw[aC (n:=lv kind op+(if (1:Int)<k then 1 else (k:Int))) (by split<;>omega) (by split<;>omega)]
 all_goals first|contradiction|exact⟨_,_,kK (by (repeat' split)<;>omega),am rfl⟩
theorem AJ (kind op:Int) (not:Bool) (val:Val) (qual name:ByteArray) (kids:List Expr) (sub:List Query) (k:Nat) (hk:k<kids.length):Cl Tryz.prog 215 [.ag (ar (Expr.mk kind op not val qual name kids sub).row),vi k] [] fun r _=>r=vb (lp kind op kids k):=by
 rw[Expr.row_mk]
 refine ai ac false Tryz.func215 rfl ae ?_
 simp only[Tryz.f215,tt,seval]
 refine dDrawn.intro [] (dC [0,2,4,6,8,11,12,14,16,18,20,22,26,28,25,31,32,34,36]) ae ?_
 simp only[tt,seval]
 refine fun hlen=>?_
 rw[aC (n:=(kids.length:Int)-1) aa aa]
 refine cZ (dr k 0 (kids.length-1)) ?_ ?_<;>simp only[tt,seval]
 simp only[tt,seval,aw (show (0:Int)<=k/\(k:Int)<=(kids.length:Int)-1 by omega)]
 refine⟨aa,aa,_,aD Expr.row_len (aA hk),Expr.ne _ _,?_⟩
 simp only[seval,Expr.tk,Expr.row_len]
 refine cZ (oP kids[k]) ?_ ?_<;>simp only[tt,seval]
 refine cZ (Et kind op not val qual name kids sub k hk) ?_ ?_<;>simp only[tt,seval,Expr.row_mk]
 exact⟨_,_,aR (by rw[lp,List.getD_eq_getElem?_getD,aA hk];rfl),am rfl⟩
theorem xV (kind op:Int) (not:Bool) (val:Val) (qual name:ByteArray) (kids:List Expr) (sub:List Query) (k:Nat) (hk:k<kids.length):Cl Tryz.prog 213 [.ag (ar (Expr.mk kind op not val qual name kids sub).row),vi k] [] fun r _=>r=vb (lp kind op kids k):=by
 rw[Expr.row_mk]
 refine ai ac false Tryz.func213 rfl ae ?_
 simp only[Tryz.f213,tt,seval]
 refine dDrawn.intro [] (dC [0,2,4,6,8,10,12,14,16,18,20,22,24,26,28,32,34,31,37,38,40,42]) ae ?_
 simp only[tt,seval]
 simp only[tt,seval,aw (show (0:Int)<=k by omega)]
 refine fun hlen=>?_
 simp only[tt,seval,aw (show (k:Int)<kids.length by omega)]
 refine⟨aa,aa,_,aD Expr.row_len (aA hk),Expr.ne _ _,?_⟩
 simp only[seval,Expr.tk,Expr.row_len]
 refine cZ (mH kids[k]) ?_ ?_<;>simp only[tt,seval]
 refine cZ (C3 kind op not val qual name kids sub k hk) ?_ ?_<;>simp only[tt,seval,Expr.row_mk]
 exact⟨_,_,aR (by rw[lp,List.getD_eq_getElem?_getD,aA hk];rfl),am rfl⟩
end Go.Proofs.YtdmomaomffhidaaGreatDoor
namespace Go.Cv
open Go Go.RowKit Go.Dv
open Go.Vc (iY guardSlot bY vis aQ CellF RowF ValsF D inN dS callable aW eM aN TS sizeTS elemS an dy aT j0 oH bX aX gS eR db inN inN_iff Plan dsts dstsOps Cells oneCell_eq)
abbrev K1:=Rg->World->Prop
abbrev KX:=Exit->K1
def Rv:S->Value->Prop
 |.c (.v x),y=>y=x
 |.c .dead,_=>True
 |.c (.fn g [] []),y=>y = .func (.func g) #[] #[]
 |.ag _,_=>True
 |_,_=>False
structure CSim (n:Nat) (f:Rg) (a:Act):Prop where
 size:a.tmps.size=n
 defers:a.defers=[]
 slots:∀i,Rv (f i) (a.tmps.getD i undef)
def argsV:List S->Option (List Value)
 | []=>some []
 |.c (.v x)::r=>match argsV r with|some vs=>some (x::vs)|none=>none
 |_::_=>none
def Stp (K:K1) (f:Rg) (w:World):Prop:=K f w
theorem Stp.go {K:K1} {f:Rg} {w:World} (h:K f w):Stp K f w:=h
def Iy (P:Program) (n:Nat) (d:Option Nat) (g:FuncId) (vs:List Value) (K:K1):K1:=fun f w=>
 callable P g=true/\∃R:Value->World->Prop,Calls P g vs.toArray w (fun e w'=>∃v,e = .returned v/\R v w')/\∀v w',R v w'->Stp K (put n f d (.c (.v v))) w'
def cLoad (P:Program) (n:Nat) (d:Option Nat) (t:TypeId) (ad:Addr) (K:K1):K1:=fun f w=>
 aN P t = .one/\∃v,w.cell? ad=some v/\K (put n f d (.c (.v v))) w
def cStore (P:Program) (n:Nat) (d:Option Nat) (t:TypeId) (ad:Addr) (v:Value) (K:K1):K1:=fun f w=>
 aN P t = .one/\Go.Vc.oneCell v=true/\(w.cell? ad).isSome=true/\w.frozen? ad=false/\∃w',w.setCell ad v=w'/\Stp K (put n f d (.c .dead)) w'
def cBox (P:Program) (n:Nat) (d:Option Nat) (t:TypeId) (vs:List Value) (K:K1):K1:=fun f w=>
 ∀b w',b=w.heap.size->w'=w.alloc (.cells vs.toArray t)->K (put n f d (.c (.v (.pointer (some ⟨b,0,none⟩))))) w'
def cLoadA (n:Nat) (d:Option Nat) (k b off:Nat) (K:K1):K1:=fun f w=>
 ∃vs:List Value,vs.length=k/\Cells w b off vs/\K (put n f d (.c (.v (.agg vs.toArray)))) w
def cAlloc (n:Nat) (d:Option Nat) (t:TypeId) (z:List Value) (K:K1):K1:=fun f w=>
 ∀b w',b=w.heap.size->w'=w.alloc (.cells z.toArray t)->K (put n f d (.c (.v (.pointer (some ⟨b,0,none⟩))))) w'
def Eu (n:Nat) (d:Option Nat) (b:Nat) (vs:List Value) (K:K1):K1:=fun f w=>
 (∃cur t fz,w.heap[b]?=some (.cells cur t fz)/\Lh cur.size fz/\vs.length=cur.size)/\(∀v∈vs,v.oneCell'=true)/\∃w',w.setRow b vs.toArray=w'/\Stp K (put n f d (.c .dead)) w'
def cOp (P:Program) (n:Nat) (o:Oper) (K:K1):K1:=fun f w=>
 match o.op with
 |.move x | .assign x=>K (put n f o.dst (ev f x)) w
 | .binOp op t x y _=>(match ev f x,ev f y with
  |.c (.v a),.c (.v b)=>bP P n o.dst (do eqGuard op t x y a b;binOp op t a b) (fun f' _ _=>K f' w) f [] none
  | _,_=>False)
 | .unOp op _ x=>(match ev f x with
  |.c (.v a)=>bP P n o.dst (Op.unary op a) (fun f' _ _=>K f' w) f [] none
  | _=>False)
 | .convert s t x=>(match ev f x with
  |.c (.v a)=>bP P n o.dst (convert s t a) (fun f' _ _=>K f' w) f [] none
  | _=>False)
 | .extract x i=>(match ev f x with
  |.c (.v (.tuple ys))=>∃v,ys[i]?=some v/\K (put n f o.dst (.c (.v v))) w
  | _=>False)
 | .indexAddr T x i=>(match ev f x,ev f i,elemS P T with
  |.c (.v (.slice (some ⟨b,off,none⟩) ln _)),.c (.v (.int _ k)),some (_,sz,_)=>0<=k/\k<ln/\K (put n f o.dst (.c (.v (.pointer (some ⟨b,off+k.toNat*sz,none⟩))))) w
  | _,_,_=>False)
 | .fieldAddr T x k=>(match an P T k,ev f x with
  |some q,.c (.v (.pointer (some ⟨b,off,none⟩)))=>K (put n f o.dst (.c (.v (.pointer (some ⟨b,off+q,none⟩))))) w
  | _,_=>False)
 | .nilCheck x=>(match ev f x with
  |.c (.v (.pointer (some ad)))=>K (put n f o.dst (.c (.v (.pointer (some ad))))) w
  | _=>False)
 | .load t x=>(match ev f x with
  |.c (.v (.pointer (some ⟨b,off,none⟩)))=>(match aN P t with | .agg k=>cLoadA n o.dst k b off K f w|_=>cLoad P n o.dst t ⟨b,off,none⟩ K f w)
  | _=>False)
 | .store t x y=>(match ev f x,ev f y with
  |.c (.v (.pointer (some ⟨b,0,none⟩))),.c (.v (.agg xs))=>aN P t = .agg xs.size/\Eu n o.dst b xs.toList K f w
  |.c (.v (.pointer (some ⟨b,off,none⟩))),.c (.v v)=>cStore P n o.dst t ⟨b,off,none⟩ v K f w
  | _,_=>False)
 |.alloc t=>(match aU P t with|some z=>cAlloc n o.dst t z K f w|none=>False)
 | .pick x a b=>(match ev f x with
  |.c (.v (.bool t))=>(t=true->K (put n f o.dst (ev f a)) w)/\(t=false->K (put n f o.dst (ev f b)) w)
  | _=>False)
 | .box t x=>(match ev f x with
  |.c (.v (.agg xs))=>cBox P n o.dst t xs.toList K f w
  | _=>False)
 | .call c=>(match c.callee with
  | .value g=>(match ev f g,argsV (c.args.toList.map (ev f)) with
   |.c (.fn g [] []),some vs=>Iy P n o.dst g vs K f w
   | _,_=>False)
  | .builtin .len=>(match c.args.toList.map (ev f),c.argTypes.toList with
   | [.c (.v (.slice ad ln cap))],[T]=>Go.Vc.lenK P T=1/\K (put n f o.dst (.c (.v (.int .i64 ln)))) w
   | [.c (.v (.string s))],[T]=>Go.Vc.lenK P T=2/\K (put n f o.dst (.c (.v (.int .i64 s.size)))) w
   | _,_=>False)
  | _=>False)
 |_=>False
def lq (n:Nat) (ops:Array Oper) (o:Oper) (step:K1->K1) (K:K1):K1:=fun f w=>match o.guard with
 |none=>step K f w
 | some (j,want)=>(match guardSlot ops j with
  | some g=>(match f g with
   |.c (.v (.bool b))=>(b=want->step K f w)/\(b=(!want)->K (put n f o.dst (.c .dead)) w)
   | _=>False)
  | none=>False)
theorem cg0 (n:Nat) (ops:Array Oper) (T:K1->K1) (Q:K1) (f:Rg) (w:World) (dst:Option Nat) (op:Op) (ty:TypeId) (pos:String) (af:Array Edge):lq n ops ⟨dst,op,ty,pos,af,none⟩ T Q f w=T Q f w:=rfl
theorem cg1 (n:Nat) (ops:Array Oper) (T:K1->K1) (Q:K1) (f:Rg) (w:World) (dst:Option Nat) (op:Op) (ty:TypeId) (pos:String) (af:Array Edge) (j:Nat) (want:Bool):lq n ops ⟨dst,op,ty,pos,af,some (j,want)⟩ T Q f w =
 (match guardSlot ops j with
 | some g=>(match f g with
  |.c (.v (.bool b))=>(b=want->T Q f w)/\(b=(!want)->Q (put n f dst (.c .dead)) w)
  | _=>False)
 | none=>False):=rfl
def Iz (ws:List Nat) (body:KX->K1) (K:KX):K1:=fun f w=>
 ∃(I:Rg->World->Prop) (μ:Rg->World->Nat),I (cz ws f f) w /\
  ∀g w2,I (cz ws f g) w2->body (fun e f' w'=>match e with
   |.normal=>I (cz ws f f') w'/\μ (cz ws f f') w' < μ (cz ws f g) w2
   | e=>K e f' w') (cz ws f g) w2
structure Gr (w w':World):Prop where
 size:w.heap.size<=w'.heap.size
 keep:∀b,b<w.heap.size->w'.heap[b]?=w.heap[b]?
 os:w'.os=w.os
 tape:w'.tape=w.tape
 output:w'.output=w.output
section
variable {P:Program} {n:Nat} {f:Rg} {a:Act} {w:World} {K:K1} {Ka:Act->World->Prop} {Q:Exit->Act->World->Prop} {ops:Array Oper}
theorem cj (h:CSim n f a) (x:Operand):Rv (ev f x) (a.eval x):=by
 cases x with
 |tmp t=>exact h.slots t
 |const v=>cases v<;>first|rfl|trivial
 |global g=>rfl
 |func g=>rfl
theorem CSim.put (h:CSim n f a) (d:Option Nat) {x:S} {v:Value} (hv:Rv x v):CSim n (Go.Dv.put n f d x) (a.put d v) where
 size:=by rw[Go.Vc.Act.size_put];exact h.size
 defers:=by rw[Go.Vc.Act.defers_put];exact h.defers
 slots:=fun i=>by
  cases d with
  |none=>exact h.slots i
  |some d=>
   rw[Go.Vc.getD_put h.size]
   simp only[Go.Dv.put]
   by_cases hd:d<n
   ·simp only[hd,if_true,q8]
    by_cases hi:i=d
    ·simp [hi,hv]
    ·simp only[hi,false_and,if_false];exact h.slots i
   ·simp only[hd,if_false,and_false];exact h.slots i
theorem mI:∀ {xs:List Operand} {vs:List Value},CSim n f a->argsV (xs.map (ev f))=some vs->xs.map a.eval=vs
 | [],vs,_,h=>by simp [argsV] at h;simp [h]
 |x::r,vs,hs,h=>by
  have hx:=cj hs x
  simp only[List.map_cons] at h ⊢
  unfold argsV at h
  split at h
  ·rename_i e;simp at e
  ·rename_i z r' e
   injection e with e1 e2
   subst e2
   rw[e1] at hx
   split at h
   ·rename_i vs' hr
    injection h with h
    subst h
    rw[mI hs hr];exact congrArg (· :: vs') hx
   ·cases h
  ·cases h
theorem cE (a:Act) (d:Option Nat) (v:Value):∀j,j ∉ d.toList->(a.put d v).tmps.getD j undef=a.tmps.getD j undef:=(jE (β:=fun _=>none) a d v).tmps
theorem lr {o:Oper} {s:Sem Value} (hs:CSim n f a) (hr:∀w,(execOp a.eval o).run P w=((do pure (Next.value (<-s)):Sem Next).run P w))
 (h:bP P n o.dst s (fun f' _ _=>K f' w) f [] none) (hK:∀f' a' w',CSim n f' a'->(∀j,j ∉ o.dst.toList->a'.tmps.getD j undef=a.tmps.getD j undef)->K f' w'->Ka a' w'):o.wp P a w Ka Q:=by
 obtain⟨v,hv,_,hk⟩:=h
 exact aW (v:=v) (w':=w) (by rw[hr];exact j0 (hv w)) (hK _ _ _ (hs.put o.dst (x:=.c (.v v)) rfl) (cE _ _ _) hk)
theorem C4 {o:Oper} (hs:CSim n f a) (h:cOp P n o K f w) (hK:∀f' a' w',CSim n f' a'->(∀j,j ∉ o.dst.toList->a'.tmps.getD j undef=a.tmps.getD j undef)->K f' w'->Ka a' w'):o.wp P a w Ka Q:=by
 unfold cOp at h
 split at h
 ·rename_i x ho
  exact aW (v:=a.eval x) (w':=w) (by simp [execOp,ho]) (hK _ _ _ (hs.put o.dst (cj hs x)) (cE _ _ _) h)
 ·rename_i x ho
  exact aW (v:=a.eval x) (w':=w) (by simp [execOp,ho]) (hK _ _ _ (hs.put o.dst (cj hs x)) (cE _ _ _) h)
 ·rename_i op t x y pos ho
  have hx:=cj hs x
  have hy:=cj hs y
  split at h
  ·rename_i u v e1 e2
   rw[e1] at hx;rw[e2] at hy
   have hx:a.eval x=u:=hx
   have hy:a.eval y=v:=hy
   exact lr hs (fun w'=>by simp [execOp,ho,hx,hy]) h hK
  ·exact h.elim
 ·rename_i op pos x ho
  have hx:=cj hs x
  split at h
  ·rename_i u e1
   rw[e1] at hx
   have hx:a.eval x=u:=hx
   exact lr hs (fun w'=>by simp [execOp,ho,hx]) h hK
  ·exact h.elim
 ·rename_i s t x ho
  have hx:=cj hs x
  split at h
  ·rename_i u e1
   rw[e1] at hx
   have hx:a.eval x=u:=hx
   exact lr hs (fun w'=>by simp [execOp,ho,hx]) h hK
  ·exact h.elim
 ·rename_i x i ho
  have hx:=cj hs x
  split at h
  ·rename_i ys e1
   rw[e1] at hx
   have hx:a.eval x = .tuple ys:=hx
   obtain⟨v,hv,hk⟩:=h
   exact aW (v:=v) (w':=w) (by simp [execOp,ho,hx,Instr.extract,hv]) (hK _ _ _ (hs.put o.dst (x:=.c (.v v)) rfl) (cE _ _ _) hk)
  ·exact h.elim
 ·rename_i T x i ho
  have hx:=cj hs x
  have hi:=cj hs i
  split at h
  ·rename_i b off ln cp kk k e sz by' e1 e2 hel
   rw[e1] at hx;rw[e2] at hi
   have hx:a.eval x=_:=hx
   have hi:a.eval i=_:=hi
   obtain⟨h0,h1,h⟩:=h
   obtain⟨hu,inf,hinf,hsz,_⟩:=Go.Vc.elemS_spec hel
   have hrun:(execOp a.eval o).run P w = .ok (.value (.pointer (some (Addr.add ⟨b,off,none⟩ (k.toNat*sz))))) w:=by
    simp [execOp,ho,Instr.indexAt,hi,asIntOf,aX hu,hx,h0,h1,sizeOf,typeInfo,hinf,hsz]
   rw[aT] at hrun
   exact aW hrun (hK _ _ _ (hs.put o.dst (x:=.c (.v _)) rfl) (cE _ _ _) h)
  ·exact h.elim
 ·rename_i T x k ho
  have hx:=cj hs x
  split at h
  ·rename_i q b off hq e1
   rw[e1] at hx
   have hx:a.eval x=_:=hx
   have:=dy hq ⟨b,off,none⟩ w
   rw[aT] at this
   exact aW (v:=.pointer (some ⟨b,off+q,none⟩)) (w':=w) (by simp only[execOp,ho,hx];exact j0 this) (hK _ _ _ (hs.put o.dst (x:=.c (.v _)) rfl) (cE _ _ _) h)
  ·exact h.elim
 ·rename_i x ho
  have hx:=cj hs x
  split at h
  ·rename_i ad e1
   rw[e1] at hx
   have hx:a.eval x=_:=hx
   exact aW (v:=.pointer (some ad)) (w':=w) (by simp [execOp,ho,hx]) (hK _ _ _ (hs.put o.dst (x:=.c (.v _)) rfl) (cE _ _ _) h)
  ·exact h.elim
 ·rename_i t x ho
  have hx:=cj hs x
  split at h
  ·rename_i b off e1
   rw[e1] at hx
   have hx:a.eval x=_:=hx
   split at h
   ·rename_i k ht
    obtain⟨vs,hl,hc,hk⟩:=h
    have hl:=bY (P:=P) (w:=w) ht (ad:=⟨b,off,none⟩) (vs:=vs) hl (fun j v hj=>by rw[aT];exact hc j v hj)
    exact aW (v:=.agg vs.toArray) (w':=w) (by simp [execOp,ho,Instr.loadAt,Instr.sureAddr,hx,hl]) (hK _ _ _ (hs.put o.dst (x:=.c (.v _)) rfl) (cE _ _ _) hk)
   ·obtain⟨ht,v,hv,hk⟩:=h
    have hl:=bX (P:=P) (w:=w) ht (ad:=⟨b,off,none⟩) (v:=v) hv
    exact aW (v:=v) (w':=w) (by simp [execOp,ho,Instr.loadAt,Instr.sureAddr,hx,hl]) (hK _ _ _ (hs.put o.dst (x:=.c (.v v)) rfl) (cE _ _ _) hk)
  ·exact h.elim
 ·rename_i t x y ho
  have hx:=cj hs x
  have hy:=cj hs y
  split at h
  ·rename_i b xs e1 e2
   rw[e1] at hx;rw[e2] at hy
   have hx:a.eval x=_:=hx
   have hy:a.eval y = .agg xs:=hy
   obtain⟨ht,⟨cur,tt,fz,hh,hlh,hlen⟩,hone,_,rfl,hk⟩:=h
   have hst:=cR P b 0 tt fz xs.toList 0 cur w hh hlh aa hone
   have e:(cur.toList.take (0+0)++xs.toList++cur.toList.drop (0+0+xs.toList.length)).toArray=xs.toList.toArray:=by
    rw[List.drop_eq_nil_of_le (by rw[hlen];simp)];simp
   rw[e] at hst
   exact eM (Go.Vc.store_run (w':=w.setRow b xs.toList.toArray) ho hx (by rw[hy,ht];simp [Value.cells,Go.Vc.sizeTS]) (by rw[ht];simp) (by rw[hy];simpa [Value.cells] using hst)) (hK _ _ _ (hs.put o.dst (x:=.c .dead) trivial) (cE _ _ _) hk)
  ·rename_i b off v _ e1 e2
   rw[e1] at hx;rw[e2] at hy
   have hx:a.eval x=_:=hx
   have hy:a.eval y=v:=hy
   obtain⟨ht,h1,hc,hf,_,rfl,hk⟩:=h
   have hsz:v.cells.size=1:=by cases v<;>first|rfl|cases h1
   have hcl:v.cells.toList=[v]:=by cases v<;>first|rfl|cases h1
   have hst:(storeCells ⟨b,off,none⟩ [v]).run P w = .ok () (w.setCell ⟨b,off,none⟩ v):=by
    have:=Go.Vc.run_storeCells_mem (P:=P) [v] ⟨b,off,none⟩ 0 w rfl (by simpa using h1) (fun j hj=>by
     obtain rfl:j=0:=by simpa using hj
     simpa [aT] using ⟨hc,hf⟩)
    simpa [Go.Vc.setCells,aT] using this
   exact eM (Go.Vc.store_run (w':=w.setCell ⟨b,off,none⟩ v) ho hx (by rw[hy,hsz,ht];rfl) (by rw[ht];simp) (by rw[hy,hcl];exact hst)) (hK _ _ _ (hs.put o.dst (x:=.c .dead) trivial) (cE _ _ _) hk)
  ·exact h.elim
 ·rename_i t ho
  split at h
  ·rename_i z hz
   obtain⟨v,hv,hc⟩:=Go.Vc.zeroC_run (gm hz).1 w
   refine aW (v:=.pointer (some ⟨w.heap.size,0,none⟩)) (w':=w.alloc (.cells z.toArray t)) ?_ (hK _ _ _ (hs.put o.dst (x:=.c (.v _)) rfl) (cE _ _ _) (h _ _ rfl rfl))
   rw[<-hc]
   simp [execOp,ho,Instr.alloc,hv,db]
  ·exact h.elim
 ·rename_i x u v ho
  have hx:=cj hs x
  split at h
  ·rename_i t e1
   rw[e1] at hx
   have hx:a.eval x = .bool t:=hx
   cases t with
   |true=>exact aW (v:=a.eval u) (w':=w) (by simp [execOp,ho,hx,asBool]) (hK _ _ _ (hs.put o.dst (cj hs u)) (cE _ _ _) (h.1 rfl))
   |false=>exact aW (v:=a.eval v) (w':=w) (by simp [execOp,ho,hx,asBool]) (hK _ _ _ (hs.put o.dst (cj hs v)) (cE _ _ _) (h.2 rfl))
  ·exact h.elim
 ·rename_i t x ho
  have hx:=cj hs x
  split at h
  ·rename_i xs e1
   rw[e1] at hx
   have hx:a.eval x = .agg xs:=hx
   refine aW (v:=.pointer (some ⟨w.heap.size,0,none⟩)) (w':=w.alloc (.cells xs.toList.toArray t)) ?_ (hK _ _ _ (hs.put o.dst (x:=.c (.v _)) rfl) (cE _ _ _) (h _ _ rfl rfl))
   simp [execOp,ho,hx,Instr.box,db,Value.cells]
  ·exact h.elim
 ·rename_i cc ho
  split at h
  ·rename_i g hg
   split at h
   ·rename_i gid vs e1 e2
    obtain⟨hcl,R,hR,hk⟩:=h
    have hge:a.eval g = .func (.func gid) #[] #[]:=by have:=cj hs g;rw[e1] at this;exact this
    have hargs:=mI hs e2
    have hrun:(execOp a.eval o).run P w = .ok (.enter gid vs.toArray) w:=by
     have he:cc.args.map a.eval=vs.toArray:=by rw[<-hargs,<-Array.toList_map]
     simp [execOp,ho,resolve,hg,hge,Deferred.ofValue,invoke,eR hcl,he]
    unfold Oper.wp
    rw[hrun,Oper.upon_enter]
    refine hR.mono ?_
    rintro e w' ⟨v,rfl,hv⟩
    exact hK _ _ _ (hs.put o.dst (x:=.c (.v v)) rfl) (cE _ _ _) (hk v w' hv)
   ·exact h.elim
  ·rename_i hg
   split at h
   ·rename_i ad ln cap T e1 e2
    obtain⟨hT,hk⟩:=h
    obtain⟨x,hx,hev⟩:=Go.Vc.map1 e1
    have ha:=Go.Vc.arr1 hx
    have ht:=Go.Vc.arr1 e2
    have hr:=cj hs x
    rw[hev] at hr
    have hr:a.eval x=_:=hr
    have hu:∃e,P.underlying T=some (.slice e):=by
     unfold Go.Vc.lenK at hT
     split at hT
     ·rename_i e he;exact⟨e,he⟩
     ·cases hT
     ·cases hT
    exact aW (v:=.int .i64 ln) (w':=w) (Go.Vc.len_run ho hg ha ht (.inl ⟨_,_,_,hr,rfl,hu⟩)) (hK _ _ _ (hs.put o.dst (x:=.c (.v _)) rfl) (cE _ _ _) hk)
   ·rename_i u T e1 e2
    obtain⟨hT,hk⟩:=h
    obtain⟨x,hx,hev⟩:=Go.Vc.map1 e1
    have ha:=Go.Vc.arr1 hx
    have ht:=Go.Vc.arr1 e2
    have hr:=cj hs x
    rw[hev] at hr
    have hr:a.eval x=_:=hr
    have hu:P.underlying T=some .string:=by
     unfold Go.Vc.lenK at hT
     split at hT
     ·cases hT
     ·assumption
     ·cases hT
    exact aW (v:=.int .i64 u.size) (w':=w) (Go.Vc.len_run ho hg ha ht (.inr ⟨_,hr,rfl,hu⟩)) (hK _ _ _ (hs.put o.dst (x:=.c (.v _)) rfl) (cE _ _ _) hk)
   ·exact h.elim
  ·exact h.elim
 ·exact h.elim
def Kp (ws:List Nat) (a a':Act):Prop:=∀j,j ∉ ws->a'.tmps.getD j undef=a.tmps.getD j undef
theorem Kp.refl (ws:List Nat) (a:Act):Kp ws a a:=fun _ _=>rfl
theorem Kp.trans {ws:List Nat} {a b c:Act} (h:Kp ws a b) (k:Kp ws b c):Kp ws a c:=fun j hj=>(k j hj).trans (h j hj)
theorem Kp.mono {ws us:List Nat} {a b:Act} (h:Kp ws a b) (k:∀j∈ws,j∈us):Kp us a b:=fun j hj=>h j fun e=>hj (k j e)
theorem IA {ws:List Nat} {s:S} {y:Value} (h:Rv s y):Rv (kS ws [] s) y:=by
 cases s with
 |c x=>
  cases x with
  |fn g p q=>cases p<;>cases q<;>simp_all [Rv,kS,kC,q6]
  |_=>simp_all [Rv,kS,kC]
 |ag cs=>exact trivial
 |tu xs=>exact h.elim
def cRet (rs:List ResultVar) (R:Value->World->Prop):K1:=fun f w=>match rs with
 | [.tmp t]=>(match f t with | .c (.v x)=>R x w|_=>False)
 |_=>False
def cEnd (rs:List ResultVar) (R:Value->World->Prop):KX
 |.normal | .ret=>cRet rs R
 |_=>fun _ _=>False
def regsV:List Value->Rg
 | []=>fun _=>.c .dead
 |v::vs=>fun i=>match i with|0=>.c (.v v)|i+1=>regsV vs i
theorem qR (k:Nat):∀(vs:List Value) (i:Nat),Rv (regsV vs i) ((vs++List.replicate k undef)[i]?.getD undef)
 | [],_=>trivial
 |v::vs,0=>rfl
 |v::vs,i+1=>by simpa [regsV] using qR k vs i
end
end Go.Cv
namespace Go.Cv
open Go Go.RowKit Go.Dv
open Go.Vc (vis aQ CellF RowF ValsF D dS Cells Chg Grow setCells aT)
theorem Gr.trans {a b c:World} (h:Gr a b) (k:Gr b c):Gr a c:=
 ⟨Nat.le_trans h.size k.size,fun i hi=>(k.keep i (Nat.lt_of_lt_of_le hi h.size)).trans (h.keep i hi),k.os.trans h.os,k.tape.trans h.tape,k.output.trans h.output⟩
theorem vis_lt {w:World} {b:Nat} (h:Go.Vc.vis w b):b<w.heap.size:=by
 obtain⟨o,ho,_⟩:=h
 exact (Array.getElem?_eq_some_iff.1 ho).1
theorem Gr.grow {w w':World} (h:Gr w w'):Grow w w':=⟨fun b hb=>h.keep b (vis_lt hb),h.os,h.tape,h.output⟩
structure ChL (F:List Nat) (w w':World):Prop where
 chg:Chg F w w'
 size:w.heap.size<=w'.heap.size
 keep:∀b,b<w.heap.size->b ∉ F->w'.heap[b]?=w.heap[b]?
theorem ChL.store {w:World} {b o:Nat} {v:Value}:ChL [b] w (w.setCell ⟨b,o,none⟩ v):=⟨Chg.store,by rw[World.size_setCell];exact Nat.le_refl _,fun x _ hx=>Go.heap_setCell_other w ⟨b,o,none⟩ x v (by simpa using hx)⟩
theorem ChL.refl (F:List Nat) (w:World):ChL F w w:=⟨Chg.refl _ _,Nat.le_refl _,fun _ _ _=>rfl⟩
theorem ChL.trans {F:List Nat} {a b c:World} (h:ChL F a b) (k:ChL F b c):ChL F a c:=
 ⟨h.chg.trans k.chg,Nat.le_trans h.size k.size,fun x hx hn=>(k.keep x (Nat.lt_of_lt_of_le hx h.size) hn).trans (h.keep x hx hn)⟩
theorem ChL.mono {F G:List Nat} {a b:World} (h:ChL F a b) (hs:∀x∈F,x∈G):ChL G a b:=⟨h.chg.mono hs,h.size,fun x hx hn=>h.keep x hx fun e=>hn (hs x e)⟩
theorem Gr.chl {a b:World} (h:Gr a b) (F:List Nat):ChL F a b:=⟨h.grow.chg F,h.size,fun x hx _=>h.keep x hx⟩
def OwnL (m:World) (F:List Nat):Prop:=∀b∈F,∃cs t lh,m.heap[b]?=some (.cells cs t lh)/\Lh cs.size lh
theorem OwnL.nil (m:World):OwnL m []:=fun _ h=>by cases h
theorem vL {m:World} {b:Nat} (h:∃cs t lh,m.heap[b]?=some (.cells cs t lh)/\Lh cs.size lh):vis m b:=by
 obtain⟨cs,t,lh,h,_⟩:=h;exact⟨_,h,by simp [Go.Vc.hid]⟩
theorem OwnL.vis {m:World} {F:List Nat} (h:OwnL m F):∀b∈F,Go.Vc.vis m b:=fun b hb=>vL (h b hb)
theorem OwnL.app {m:World} {F G:List Nat} (h:OwnL m F) (k:OwnL m G):OwnL m (F++G):=fun b hb=>(List.mem_append.1 hb).elim (h b) (k b)
theorem OwnL.frozen {m:World} {F:List Nat} (h:OwnL m F) {b o:Nat} (hb:b∈F) (hc:(m.cell? ⟨b,o,none⟩).isSome=true):m.frozen? ⟨b,o,none⟩=false:=by
 obtain⟨cs,t,⟨lo,hi⟩,e,hl⟩:=h _ hb
 have ho:o<cs.size:=by
  unfold World.cell? at hc
  rw[e] at hc
  simpa using hc
 have:=hl o ho
 simp only[World.frozen?,e,Bool.and_eq_false_iff,decide_eq_false_iff_not]
 simp only at this
 omega
theorem OwnL.sub {F G:List Nat} {m:World} (h:OwnL m F) (hs:∀b∈G,b∈F):OwnL m G:=fun b hb=>h b (hs b hb)
end Go.Cv
namespace Go.Cv
open Go Go.RowKit Go.Dv
open Go.Vc (vis aQ CellF RowF ValsF D dS Cells Chg Grow aT callable)
variable [Out]
structure New (w w':World) (G:List Nat):Prop where
 nodup:G.Nodup
 new:∀b∈G,w.heap.size<=b
 own:OwnL w' G
def Res (P:Program) (w w':World) (r:S) (v:Value):Prop:=
 ∃ β ok,RelS P w' β ok (expS 9700 r) v/\(∀b,ok b -> ¬ownB (back r []) β b)/\(∀i o,Go.Dv.look (back r []) i=some o->RelO P w' β ok i o)/\(∀b,ownB (back r []) β b->w.heap.size<=b) /\
  (fps r []).flatten.Nodup/\(∀b∈(fps r []).flatten,w.heap.size<=b/\∃cs t lh,w'.heap[b]?=some (.cells cs t lh)/\Lh cs.size lh)
section
variable {P:Program} {w w':World}
theorem Cl.at {g:FuncId} {args:List S} {R:S->List (List C)->Prop} (h:Cl P g args [] R) (hp:bq (args.flatMap aV)=true) {vs:List Value}
 (hv:RelA P w (fun _=>none) (fun _=>True) args vs) (hg:GlW w (fun _=>False)) :
 callable P g=true/\Calls P g vs.toArray w fun e w'=>∃v,e = .returned v/\∃r,R r []/\Gr w w'/\Res P w w' r v:=by
 obtain⟨e1,e2⟩:=gu 9500 hp
 have el:lent args []=[]:=by simp [lent,e2,eI]
 have hno:∀ β b,¬ownB [] β b:=fun β b ⟨i,o,h1,_⟩=>by simp [Go.Dv.look] at h1
 have hok:sr (fun _=>True) (lent args []) (fun _=>none)=fun _=>True:=by
  funext b
  simp [sr,el,hno]
 refine⟨h.1,(h.2 w (fun _=>none) (fun _=>True) vs ?_ ?_ ?_).mono ?_⟩
 ·rw[e1,hok];exact hv
 ·rw[el];exact⟨fun i o hl=>by simp [Go.Dv.look] at hl,fun i j o o' b hl=>by simp [Go.Dv.look] at hl⟩
 ·exact hg.mono (fun _ _ _=>rfl) fun b hb _=>by rw[el] at hb;exact (hno _ _ hb).elim
 ·rintro e W' ⟨v,r,objs,β,rfl,hR,hP⟩
  have ho:objs=[]:=List.eq_nil_of_length_eq_zero (by simpa using hP.len)
  subst ho
  refine⟨v,rfl,r,hR,⟨hP.tr.size,fun b hb=>hP.tr.keep b hb (by rw[el];exact hno _ b),hP.outer.1,hP.outer.2.1,hP.outer.2.2⟩,β,_,hP.rel,fun b hb=>hb.1,hP.obs.rel,fun b hb=>?_,hP.fresh.1,fun b hb=>?_⟩
  ·by_cases hlt:b<w.heap.size
   ·have:=hP.tr.own b hlt hb
    rw[el] at this;exact (hno _ _ this).elim
   ·omega
  ·obtain⟨h1,h2,_⟩:=hP.fresh.2 b hb
   refine⟨h1.elim id fun h=>?_,h2⟩
   rw[el] at h;exact (hno _ _ h).elim
theorem Res.val {x v:Value} (h:Res P w w' (.c (.v x)) v):v=x:=by
 obtain⟨β,ok,h,_⟩:=h
 exact h.1
theorem oQ {ok:Nat->Prop} {β:Nat->Option Nat}:∀ {ds:List D} {vs:List Value},(∀d∈ds,∀x,d = .lit x->True)->RelL P w β ok (ar ds) vs->∃G,ValsF w ds vs G
 | [],[],_,_=>⟨[],rfl⟩
 | [],_::_,_,h=>h.elim
 |_::_,[],_,h=>h.elim
 |.lit x::ds,v::vs,hh,h=>by
  obtain⟨G,hG⟩:=oQ (fun d hd=>hh d (by simp [hd])) h.2
  obtain⟨h1,h2⟩:=(show v=x/\dS x from h.1)
  subst h1
  exact⟨G,[],G,⟨rfl,rfl,h2⟩,hG,by simp⟩
 |.sl n es::ds,v::vs,hh,h=>by
  obtain⟨G,hG⟩:=oQ (fun d hd=>hh d (by simp [hd])) h.2
  obtain⟨H,h1,_⟩:=h.1
  exact⟨H++G,H,G,h1,hG,rfl⟩
theorem oR (b:Nat):∀ds:List D,expC b (ar ds)=ar ds
 | []=>rfl
 |d::ds=>by cases d<;>simp [ar,sD,expC,oR (b+10000) ds]
theorem Res.ag {ds:List D} {v:Value} (h:Res P w w' (.ag (ar ds)) v):∃vs G,v = .agg (vs:List Value).toArray/\ValsF w' ds vs G:=by
 obtain⟨β,ok,h,_⟩:=h
 simp only[expS,oR] at h
 obtain⟨vs,rfl,h⟩:=h
 obtain⟨G,hG⟩:=oQ (fun _ _ _ _=>trivial) h
 exact⟨vs,G,rfl,hG⟩
structure Td (cs:List C) (ds:List D) (F:List (List Nat)):Prop where
 exp:∀b,expC b cs=cs
 obj:∀b,expO b cs=[]
 dat:dsOf cs=some (ds,some F)
 fp:fpL cs=F
 flat:flatL cs=true
 good:cs.all goodC=true
 kill:∀a b,kCs a b cs=cs
 frz:∀i n x,fCs i n x cs=cs
 owns:ownsC cs=none
 len:cs.length=ds.length
theorem Res.tdw {cs:List C} {ds:List D} {F:List (List Nat)} {v:Value} (ht:Td cs ds F) (h:Res P w w' (.ag cs) v):∃vs G,v = .agg (vs:List Value).toArray/\ValsF w' ds vs G/\New w w' G/\WhL w' ds vs:=by
 obtain⟨β,ok,h,hno,hobj,hnew,hnd,hfr⟩:=h
 simp only[expS,ht.exp] at h
 obtain⟨vs,rfl,h⟩:=h
 have hf:fps (.ag cs) []=F:=by simp [fps,aV,ht.fp,tB]
 rw[hf] at hnd hfr
 obtain⟨G,hG,hok,hs⟩:=lG ht.dat h
 exact⟨vs,G,rfl,hG,⟨(hs _ rfl).1.nodup hnd,fun b hb=>(hfr b ((hs _ rfl).1.mem hb)).1,fun b hb=>(hfr b ((hs _ rfl).1.mem hb)).2⟩,(hs _ rfl).2⟩
end
theorem H2 {w w':World} (h:Gr w w') (hg:GlW w (fun _=>False)):GlW w' (fun _=>False):=hg.mono (fun b hb _=>h.keep b hb) fun _ h _=>h
theorem AK {w:World} {d:D} {ds:List D} {vs:List Value} {F:List Nat} (h:ValsF w (d::ds) vs F):∃v r F1 R,vs=v::r/\CellF w d v F1/\ValsF w ds r R/\F=F1++R:=by
 cases vs with
 |nil=>exact h.elim
 |cons v r=>obtain⟨F1,F2,h1,h2,h3⟩:=h;exact⟨v,r,F1,F2,rfl,h1,h2,h3⟩
theorem C5 {w:World} {vs:List Value} {F:List Nat} (h:ValsF w [] vs F):vs=[]/\F=[]:=by
 cases vs with
 |nil=>exact⟨rfl,h⟩
 |cons _ _=>exact h.elim
theorem bK {w:World} {d:D} {ds:List D} {v:Value} {r:List Value} {F R:List Nat} (h:CellF w d v F) (k:ValsF w ds r R):ValsF w (d::ds) (v::r) (F++R):=⟨F,R,h,k,rfl⟩
theorem pA {w:World}:ValsF w [] [] []:=rfl
theorem f6 {w:World} {v:Value} (h:dS v):CellF w (.lit v) v []:=⟨rfl,rfl,h⟩
theorem kh {w w':World} {b:Nat} {cs:Array Value} {t:TypeId} (hb:b=w.heap.size) (hw:w'=w.alloc (.cells cs t)):w'.heap[b]?=some (.cells cs t (0,0))/\Gr w w':=by
 subst hb hw
 exact⟨Go.heap_alloc_new w _,by simp,fun x hx=>Go.heap_alloc_old w _ hx,rfl,rfl,rfl⟩
theorem cv {w:World} {b:Nat} {cs:Array Value} {t:TypeId} {lh:Nat×Nat} (h:w.heap[b]?=some (.cells cs t lh)) {j:Nat} {v:Value} (hv:cs[j]?=some v):w.cell? ⟨b,j,none⟩=some v:=by
 rw[cell_of_row w b j cs t lh h];exact hv
def av:List D->List (List (List Nat))->List C
 |.lit v::r,Fs=>.v v::av r Fs
 |.sl n ds::r,F::Fs=>.sl n ds (some F)::av r Fs
 |.sl n ds::r,[]=>.sl n ds none::av r []
 | [],_=>[]
def Ev:List D->Nat->Bool
 |.lit (.slice ..)::_,_=>false
 |.lit (.agg ..)::_,_=>false
 |.lit (.tuple ..)::_,_=>false
 |.lit _::r,k=>Ev r k
 |.sl .. :: r,k+1=>Ev r k
 |.sl .. :: _,0=>false
 | [],k=>k==0
theorem qm:∀(ds:List D) (Fs:List (List (List Nat))),Ev ds Fs.length=true->Td (av ds Fs) ds Fs.flatten
 | [],[],_=>⟨fun _=>rfl,fun _=>rfl,rfl,rfl,rfl,rfl,fun _ _=>rfl,fun _ _ _=>rfl,rfl,rfl⟩
 | [],_::_,h=>by simp [Ev] at h
 |.sl n es::r,[],h=>by simp [Ev] at h
 |.sl n es::r,F::Fs,h=>by
  have t:=qm r Fs (by simpa [Ev] using h)
  exact⟨fun b=>by simp [av,expC,t.exp],fun b=>by simp [av,expO,t.obj],by simp [av,dsOf,AW,t.dat,jD],by simp [av,fpL,vp,t.fp],by simp [av,flatL,fV,t.flat],by simp [av,goodC,t.good],fun a b=>by simp [av,kCs,kC,t.kill],fun i m x=>by simp [av,fCs,fC,t.frz],by simp [av,ownsC,t.owns],by simp [av,t.len]⟩
 |.lit v::r,Fs,h=>by
  have t:=qm r Fs (by cases v<;>simp_all [Ev])
  have hd:AW (.v v)=some (.lit v,some []):=by cases v<;>first|rfl|simp [Ev] at h
  have hg:goodC (.v v)=true:=by cases v<;>first|rfl|simp [Ev] at h
  exact⟨fun b=>by simp [av,expC,t.exp],fun b=>by simp [av,expO,t.obj],by simp [av,dsOf,hd,t.dat,jD],by simp [av,fpL,vp,t.fp],by simp [av,flatL,fV,t.flat],by simp [av,hg,t.good],fun a b=>by simp [av,kCs,kC,t.kill],fun i m x=>by simp [av,fCs,fC,t.frz],by simp [av,ownsC,t.owns],by simp [av,t.len]⟩
theorem fc {F G:List Nat} (h:∀x,F.count x<=G.count x):Sb F G:=h
end Go.Cv
set_option maxRecDepth 8000
namespace Go.Proofs.YtdmomaomffhidaaGreatDoor
open Go Go.Dv
open Go.Vc (D cU cV cF b0)
mutual
inductive ERow where
 |mk (l:List Expr)
end
mutual
def ERow.row:ERow->List D
 |.mk l=>.sl l.length (l.flatMap Expr.row)::[]
end
theorem ERow.row_mk (l:List Expr):(ERow.mk l).row = .sl l.length (l.flatMap Expr.row)::[]:=by rw[ERow.row]
mutual
inductive Stmt where
 |mk (kind:Int) (query:Query) (table:ByteArray) (rows:List ERow) (cols:List ByteArray) (sets:List Expr) (where_:List Expr)
end
mutual
def Stmt.row:Stmt->List D
 |.mk kind query table rows cols sets where_=>int kind::(query.row++str table :: .sl rows.length (rows.flatMap ERow.row) :: .sl cols.length (cols.flatMap srow) :: .sl sets.length (sets.flatMap Expr.row) :: .sl where_.length (where_.flatMap Expr.row)::[])
end
theorem Stmt.row_mk (kind:Int) (query:Query) (table:ByteArray) (rows:List ERow) (cols:List ByteArray) (sets:List Expr) (where_:List Expr):(Stmt.mk kind query table rows cols sets where_).row=int kind::(query.row++str table :: .sl rows.length (rows.flatMap ERow.row) :: .sl cols.length (cols.flatMap srow) :: .sl sets.length (sets.flatMap Expr.row) :: .sl where_.length (where_.flatMap Expr.row)::[]):=by rw[Stmt.row]
theorem vM {α:Type} {row:α->List D} {w:Nat} {l r:List α} {x:α} (h:l=x::r) (hl:∀x,(row x).length=w+1) (C:List D->Prop):(∃ds',l.flatMap row=ds' /\ ¬ds'=[]/\C ds')=C (row x++r.flatMap row):=by
 subst h
 rw[List.flatMap_cons]
 exact propext ⟨fun ⟨_,h1,_,h3⟩=>h1▸h3,fun h=>⟨_,rfl,fun h0=>by have:=congrArg List.length h0;rw[aB,hl] at this;simp at this,h⟩⟩
theorem cW {α:Type} {row:α->List D} {w:Nat} {l:List α} {i:Nat} {x:α} (hx:l[i]?=some x) (hl:∀x,(row x).length=w+1) (C:List D->Prop):(∃ds',(l.flatMap row).drop (i*(w+1))=ds' /\ ¬ds'=[]/\C ds')=C (row x++(l.drop (i+1)).flatMap row):=by
 rw[aD hl hx]
 exact propext ⟨fun ⟨_,h1,_,h3⟩=>h1▸h3,fun h=>⟨_,rfl,fun h0=>by have:=congrArg List.length h0;rw[aB,hl] at this;simp at this,h⟩⟩
end Go.Proofs.YtdmomaomffhidaaGreatDoor
set_option maxRecDepth 8000
namespace Go.Proofs.YtdmomaomffhidaaGreatDoor
open Go Go.Dv
open Go.Vc (D cU cV cF b0)
open Go.Cv
open Go.Vc (CellF ValsF callable)
section
variable {α:Type} (f:Int->α->α) (c:α->Nat)
def fT:List α->Nat
 | []=>0
 |e::es=>c e+fT es
theorem qn:∀(es fs:List α),fT c (es++fs)=fT c es+fT c fs
 | [],fs=>by simp [fT]
 |e::es,fs=>by simp [fT,qn es fs];omega
end
theorem JS {p:Prop} (h:p:=by (try refine⟨by omega,?_⟩);exact fc fun x=>by (try simp only[List.count_append,List.count_nil]);omega):p:=h
theorem Gg {p:Prop} (h:p:=by (try refine⟨by omega,?_⟩);exact fc fun x=>by (try simp only[List.count_append]);omega):p:=h
theorem xW {p:Prop} (h:p:=by (try refine⟨by omega,?_⟩);exact fc fun x=>by (try simp only[List.count_nil]);omega):p:=h
theorem Jq {p:Prop} (h:p:=by (try refine⟨by omega,?_⟩);exact fc fun x=>by (try simp only[List.flatten_append,List.count_append,List.count_nil]);omega):p:=h
theorem mc {p:Prop} (h:p:=by (try refine⟨by omega,?_⟩);exact fc fun x=>by (try simp only[List.flatten_append,List.count_append]);omega):p:=h
theorem JT {p:Prop} (h:p:=by (try refine⟨by omega,?_⟩);exact fc fun x=>by (try simp only[List.flatten_append,List.flatten_cons,List.count_append]);omega):p:=h
theorem IB {p:Prop} (h:p:=by (try refine⟨by omega,?_⟩);exact fc fun x=>by (try simp only[fb]);omega):p:=h
theorem ak:type_of% @Expr.row_mk:=@Expr.row_mk
theorem bj:type_of% @Query.row_mk:=@Query.row_mk
theorem aI:type_of% @Expr.row_len:=@Expr.row_len
theorem oS:type_of% @Tok.row_len:=@Tok.row_len
end Go.Proofs.YtdmomaomffhidaaGreatDoor
