/-
  Words, numbers and tokens; trees.
  Conditions: none.
-/
import Derived.Test.YtdmomaomffhidaaGreatDoorQYTypes
import Derived.Shelf.Strings.BuilderF
import Derived.Shelf.LaysM
import Derived.Shelf.LaysC
import Derived.Shelf.Strconv.Itoa3
import Derived.Shelf.Strings.Split
import Derived.Shelf.Strings.Replace
import Derived.Shelf.Strconv.AtoiAll
import Derived.Test.YtdmomaomffhidaaGreatDoorProg
import Derived.Lib.UnsafeStr
import Derived.Lib.AtoiTie
set_option linter.unusedVariables false
set_option linter.unusedSimpArgs false
set_option linter.unusedSectionVars false
set_option linter.unnecessarySimpa false
set_option maxRecDepth 8000
namespace Go.Proofs.YtdmomaomffhidaaGreatDoor
open Go Go.Dv
open Go.Vc (D dm dq cV bq)
abbrev int (n:Int):D:=.lit (.int .i64 n)
abbrev bool (b:Bool):D:=.lit (.bool b)
abbrev str (s:ByteArray):D:=.lit (.string s)
abbrev vi (n:Int):S:=.c (.v (.int .i64 n))
abbrev vb (b:Bool):S:=.c (.v (.bool b))
abbrev vs (s:ByteArray):S:=.c (.v (.string s))
structure Val where
 kind:Int
 num:Int
 text:ByteArray
def Val.row (v:Val):List D:=[int v.kind,int v.num,str v.text]
structure Fa where
 code:Int
 name:ByteArray
def lp (v:Val):Nat:=v.text.size
theorem kX {a b:Int} (h:a=b):vi a=vi b:=by rw[h]
theorem mW {a b:ByteArray} (h:a=b):vs a=vs b:=by rw[h]
theorem aT {a b:Bool} (h:a=b):vb a=vb b:=by rw[h]
theorem sL {α:Type} (g:α->Nat) {l:List α} {i:Nat} (h:i<l.length):((l.take (i+1)).map g).sum=((l.take i).map g).sum+g l[i]:=by
 rw[List.take_succ_eq_append_getElem h,List.map_append,List.sum_append];simp only[List.map_cons,List.map_nil,List.sum_cons,List.sum_nil,Nat.add_zero]
theorem gK {α:Type} (g:α->Nat) (l:List α) (i:Nat):∃r,(l.map g).sum=((l.take i).map g).sum+r:=⟨((l.drop i).map g).sum,by
 conv=>lhs;rw[<-List.take_append_drop i l]
 rw[List.map_append,List.sum_append]⟩
abbrev vu (b:Int):S:=.c (.v (.int .u8 b))
theorem dv (a l h:Int):Cl Tryz.prog 94 [vi a,vi l,vi h] [] fun r _=>r=vb (decide (l<=a/\a<=h)):=by
 refine ai ac false Tryz.func94 rfl ae ?_
 simp only[Tryz.f94,tt,seval]
 all_goals repeat' first|(refine ab (fun h=>?_) (fun h=>?_)<;>try simp only[tt,seval])|(intro _;try simp only[tt,seval])
 all_goals (refine⟨_,[],aT (Bool.eq_iff_iff.2 ?_),ao rfl⟩)
 all_goals (simp only[decide_eq_true_eq,decide_eq_false_iff_not,Bool.false_eq_true,false_iff] at *)
 all_goals omega
theorem qQ (a:Int):Cl Tryz.prog 271 [vu a] [] fun r _=>r=vb (decide (48<=a/\a<=57)):=by
 refine ai ac false Tryz.func271 rfl ae ?_
 simp only[Tryz.f271,tt,seval]
 all_goals repeat' first|(refine ab (fun h=>?_) (fun h=>?_)<;>try simp only[tt,seval])|(intro _;try simp only[tt,seval])
 all_goals (refine⟨_,[],aT (Bool.eq_iff_iff.2 ?_),ao rfl⟩)
 all_goals (simp only[decide_eq_true_eq,decide_eq_false_iff_not,Bool.false_eq_true,false_iff] at *)
 all_goals omega
theorem oY (a:Int):Cl Tryz.prog 234 [vu a] [] fun r _=>r=vb (decide (48<=a/\a<=57)):=by
 refine ai ac false Tryz.func234 rfl ae ?_
 simp only[Tryz.f234,tt,seval]
 all_goals repeat' first|(refine ab (fun h=>?_) (fun h=>?_)<;>try simp only[tt,seval])|(intro _;try simp only[tt,seval])
 all_goals (refine⟨_,[],aT (Bool.eq_iff_iff.2 ?_),ao rfl⟩)
 all_goals (simp only[decide_eq_true_eq,decide_eq_false_iff_not,Bool.false_eq_true,false_iff] at *)
 all_goals omega
def mL (a:Int):Bool:=decide (97<=a/\a<=122)||decide (65<=a/\a<=90)||decide (a=95)
theorem xP (a:Int):Cl Tryz.prog 272 [vu a] [] fun r _=>r=vb (mL a):=by
 refine ai ac false Tryz.func272 rfl ae ?_
 simp only[Tryz.f272,tt,seval]
 all_goals repeat' first|(refine ab (fun h=>?_) (fun h=>?_)<;>try simp only[tt,seval])|(intro _;try simp only[tt,seval])
 all_goals (refine⟨_,[],aT (Bool.eq_iff_iff.2 ?_),ao rfl⟩)
 all_goals (simp only[decide_eq_true_eq,decide_eq_false_iff_not,Bool.or_eq_true,true_iff,mL] at *)
 all_goals omega
theorem Ay (a:Int):Cl Tryz.prog 268 [vu a] [] fun r _=>r=vb (mL a):=by
 refine ai ac false Tryz.func268 rfl ae ?_
 simp only[Tryz.f268,tt,seval]
 all_goals repeat' first|(refine ab (fun h=>?_) (fun h=>?_)<;>try simp only[tt,seval])|(intro _;try simp only[tt,seval])
 all_goals (refine⟨_,[],aT (Bool.eq_iff_iff.2 ?_),ao rfl⟩)
 all_goals (simp only[decide_eq_true_eq,decide_eq_false_iff_not,Bool.or_eq_true,true_iff,mL] at *)
 all_goals omega
theorem jK (s:ByteArray):Cl Tryz.prog 96 [vs s] [] fun r _=>r=vb (decide (1<=s.size/\s.size<=20)):=by
 refine ai ac false Tryz.func96 rfl ae ?_
 simp only[Tryz.f96,tt,seval]
 refine fun hs=>?_
 refine cZ (dv s.size 1 20) ?_ ?_<;>simp only[tt,seval]
 exact⟨_,_,aT (by simp only[decide_eq_decide];omega),ao rfl⟩
theorem jL (s:ByteArray):Cl Tryz.prog 150 [vs s] [] fun r _=>r=vb (decide (1<=s.size/\s.size<=20)):=by
 refine ai ac false Tryz.func150 rfl ae ?_
 simp only[Tryz.f150,tt,seval]
 refine fun hs=>?_
 all_goals repeat' first|(refine ab (fun h=>?_) (fun h=>?_)<;>try simp only[tt,seval])|(intro _;try simp only[tt,seval])
 all_goals (refine⟨_,[],aT (Bool.eq_iff_iff.2 ?_),ao rfl⟩)
 all_goals (simp only[decide_eq_true_eq,decide_eq_false_iff_not,Bool.false_eq_true,false_iff] at *)
 all_goals omega
theorem vF (a:Int):Cl Tryz.prog 233 [vu a] [] fun r _=>r=vb (mL a||decide (48<=a/\a<=57)):=by
 refine ai ac false Tryz.func233 rfl ae ?_
 simp only[Tryz.f233,tt,seval]
 refine cZ (Ay a) ?_ ?_<;>simp only[tt,seval]
 refine ab (fun h=>?_) (fun h=>?_)
 ·simp only[tt,seval]
  exact⟨_,_,aT (by rw[h];rfl),ao rfl⟩
 ·simp only[tt,seval]
  refine cZ (oY a) ?_ ?_<;>simp only[tt,seval]
  exact⟨_,_,aT (by rw[h];rfl),ao rfl⟩
def up8 (b:UInt8):UInt8:=if 97<=b.toNat/\b.toNat<=122 then b-32 else b
def d4 (s:ByteArray):ByteArray:=⟨(s.data.toList.map up8).toArray⟩
theorem iM (l:List UInt8):(aY l).length=l.length:=by simp [aY]
theorem pK {l:List UInt8} {i:Nat} (h:i<l.length):(aY l).drop i=D.lit (.int .u8 (l[i].toNat:Int))::(aY l).drop (i+1):=by
 unfold aY
 rw[<-List.map_drop,<-List.map_drop,List.drop_eq_getElem_cons h];rfl
theorem qR {l:List UInt8} {i:Nat} {b:UInt8} (h:i<l.length):(aY l).take i++(D.lit (.int .u8 (b.toNat:Int))::(aY l).drop (i+1))=aY (l.set i b):=by
 unfold aY
 rw[List.set_eq_take_append_cons_drop,if_pos h,List.map_append,List.map_cons,List.map_take,List.map_drop]
theorem aK (s:ByteArray):s.data.toList.length=s.size:=by simp
def tl (l:List UInt8) (i:Nat):List UInt8:=(l.take i).map up8++l.drop i
theorem ji (l:List UInt8) (i:Nat):(tl l i).length=l.length:=by rw[tl,aD,List.length_map,<-aD,List.take_append_drop]
theorem uo {l:List UInt8} {i:Nat} (h:i<l.length):(tl l i)[i]'(by rw[ji];exact h)=l[i]:=by
 have hl:((l.take i).map up8).length=i:=by simp;omega
 have:(tl l i)[i]?=some l[i]:=by
  rw[tl,List.getElem?_append_right aa,hl,Nat.sub_self,List.drop_eq_getElem_cons h];rfl
 rw[aC (by rw[ji];exact h)] at this
 exact Option.some.inj this
theorem qS {l:List UInt8} {i:Nat} (h:i<l.length):(tl l i).set i (up8 l[i])=tl l (i+1):=by
 have hl:((l.take i).map up8).length=i:=by simp;omega
 unfold tl
 rw[List.set_append_right _ _ aa,hl,Nat.sub_self,List.drop_eq_getElem_cons h,List.set_cons_zero,List.take_succ_eq_append_getElem h,List.map_append]
 simp
theorem nU {l:List UInt8} {i:Nat} (h:i<l.length) (hu:up8 l[i]=l[i]):tl l i=tl l (i+1):=by
 rw[<-qS h,hu]
 conv=>rhs;rw[<-uo h]
 rw[List.set_getElem_self]
theorem zf (l:List UInt8):tl l l.length=l.map up8:=by simp [tl]
theorem uq {b:UInt8} (h:¬(97<=b.toNat/\b.toNat<=122)):up8 b=b:=if_neg h
theorem zg {b:UInt8} (h:97<=b.toNat) (h':b.toNat<=122):((up8 b).toNat:Int)=b.toNat-32:=by
 unfold up8
 rw[if_pos ⟨h,h'⟩,UInt8.toNat_sub_of_le _ _ (by rw[UInt8.le_iff_toNat_le];show 32<=_;omega)]
 show ((b.toNat-32:Nat):Int)=_
 omega
theorem BM (s:ByteArray) (hs:s.size<=1048576):Cl Tryz.prog 190 [vs s] [] fun r _=>r=vs (d4 s):=by
 obtain⟨l,hl⟩:∃l,l=s.data.toList:=⟨_,rfl⟩
 have hll:l.length=s.size:=by rw[hl];exact aK s
 refine ai ac false Tryz.func190 rfl ae ?_
 simp only[Tryz.f190,tt,seval]
 rw[<-hl]
 refine dLoop.intro (fun f L p=>∃i:Nat,f 4=vi i/\i<=s.size/\L=[(6,.arr 5 s.size (aY (tl l i)) none)]/\p=none) (fun f _ _=>(s.size-fH (f 4)).toNat) [(6,.arr 5 s.size (aY l) none)] none ⟨ak rfl (ap _),au _,?_⟩ ?_
 ·simp only[tt,seval]
  exact⟨0,rfl,aa,by simp [tl]⟩
 ·rintro g L p ⟨i,h4,hi,rfl,rfl⟩
  simp only[tt,seval] at h4
  simp only[tt,seval,h4,Int.ofNat_lt]
  refine fun _=>ab (fun hlt=>?_) (fun hge=>?_)
  ·have hlt':i<(tl l i).length:=by rw[ji];omega
   have hd:=pK hlt'
   rw[uo aa] at hd
   have hi0:(0:Int)<=(i:Int):=Int.natCast_nonneg i
   have hlI:(i:Int)<(s.size:Int):=by omega
   simp only[tt,seval,hd,Nat.mul_one,hlt,hi0]
   refine ab (fun h=>?_) (fun h=>?_)
   ·simp only[tt,seval,h4,hd,Nat.mul_one,hi0,hlI]
    simp only[decide_eq_true_eq] at h
    refine ab (fun h'=>?_) (fun h'=>?_)
    ·rw[aE (n:=(i:Int)+1) aa aa,IntWalk.u8_in _ ⟨aa,aa⟩,<-zg aa aa,qR hlt',qS aa]
     exact⟨by rw[iM,ji];omega,_,none,ak rfl (ap _),au _,⟨i+1,rfl,aa,rfl,rfl⟩,az⟩
    ·rw[eR i aa]
     have hsame:=nU (l:=l) (i:=i) aa (uq fun h1=>by omega)
     exact⟨_,none,ak rfl (ap _),au _,⟨i+1,rfl,aa,congrArg (fun x=>[(6,O.arr 5 s.size (aY x) none)]) hsame,rfl⟩,az⟩
   ·simp only[tt,seval,h4,hd,Nat.mul_one,hi0,hlI]
    rw[eR i aa]
    have hsame:=nU (l:=l) (i:=i) aa (uq fun h1=>by simp only[decide_eq_false_iff_not] at h;omega)
    exact⟨_,none,ak rfl (ap _),au _,⟨i+1,rfl,aa,congrArg (fun x=>[(6,O.arr 5 s.size (aY x) none)]) hsame,rfl⟩,az⟩
  ·have:i=s.size:=by omega
   subst this
   refine⟨ae,by simp only[maxLen];omega,tl l s.size,by rw[ji];exact hll,rfl,?_⟩
   simp only[tt,seval]
   exact⟨_,_,mW (by rw[<-hll,zf,hl];rfl),ao rfl⟩
theorem qC (s:ByteArray) (hs:s.size<=1048576):Cl Tryz.prog 236 [vs s] [] fun r _=>r=vs (d4 s):=by
 obtain⟨l,hl⟩:∃l,l=s.data.toList:=⟨_,rfl⟩
 have hll:l.length=s.size:=by rw[hl];exact aK s
 refine ai ac false Tryz.func236 rfl ae ?_
 simp only[Tryz.f236,tt,seval]
 rw[<-hl]
 refine fun _=>?_
 refine dLoop.intro (fun f L p=>∃i:Nat,f 10=vi i/\i<=s.size/\L=[(7,.arr 5 s.size (aY (tl l i)) none)]/\p=none) (fun f _ _=>(s.size-fH (f 10)).toNat) [(7,.arr 5 s.size (aY l) none)] none ⟨ak rfl (ap _),au _,?_⟩ ?_
 ·simp only[tt,seval]
  exact⟨0,rfl,aa,by simp [tl]⟩
 ·rintro g L p ⟨i,h4,hi,rfl,rfl⟩
  simp only[tt,seval] at h4
  simp only[tt,seval,h4,Int.ofNat_lt]
  refine ab (fun hlt=>?_) (fun hge=>?_)
  ·have hlt':i<(tl l i).length:=by rw[ji];omega
   have hd:=pK hlt'
   rw[uo aa] at hd
   have hi0:(0:Int)<=(i:Int):=Int.natCast_nonneg i
   have hlI:(i:Int)<(s.size:Int):=by omega
   simp only[tt,seval,hd,Nat.mul_one,hlt,hi0]
   refine ab (fun h=>?_) (fun h=>?_)
   ·simp only[tt,seval,h4,Nat.mul_one,hi0,hlI]
    simp only[decide_eq_true_eq] at h
    refine ab (fun h'=>?_) (fun h'=>?_)
    ·rw[aE (n:=(i:Int)+1) aa aa,IntWalk.u8_in ((l[i].toNat:Int)-97) ⟨aa,aa⟩,IntWalk.u8_in _ ⟨aa,aa⟩,show (l[i].toNat:Int)-97+65=l[i].toNat-32 by omega,<-zg aa aa,qR hlt',qS aa]
     exact⟨by rw[iM,ji];omega,_,none,ak rfl (ap _),au _,⟨i+1,rfl,aa,rfl,rfl⟩,az⟩
    ·rw[eR i aa]
     have hsame:=nU (l:=l) (i:=i) aa (uq fun h1=>by omega)
     exact⟨_,none,ak rfl (ap _),au _,⟨i+1,rfl,aa,congrArg (fun x=>[(7,O.arr 5 s.size (aY x) none)]) hsame,rfl⟩,az⟩
   ·simp only[tt,seval,h4,Nat.mul_one,hi0,hlI]
    rw[eR i aa]
    have hsame:=nU (l:=l) (i:=i) aa (uq fun h1=>by simp only[decide_eq_false_iff_not] at h;omega)
    exact⟨_,none,ak rfl (ap _),au _,⟨i+1,rfl,aa,congrArg (fun x=>[(7,O.arr 5 s.size (aY x) none)]) hsame,rfl⟩,az⟩
  ·have:i=s.size:=by omega
   subst this
   refine⟨ae,by simp only[maxLen];omega,tl l s.size,by rw[ji];exact hll,rfl,?_⟩
   simp only[tt,seval]
   exact⟨_,_,mW (by rw[<-hll,zf,hl];rfl),ao rfl⟩
def srow (s:ByteArray):List D:=[str s]
theorem fM (n:ByteArray):(srow n).length=1:=rfl
theorem ky (v:ByteArray) (r:List D):srow v++r≠[]:=fun h=>by cases h
def kws:List ByteArray:=[⟨#[83,69,76,69,67,84]⟩,⟨#[68,73,83,84,73,78,67,84]⟩,⟨#[70,82,79,77]⟩,⟨#[74,79,73,78]⟩,⟨#[79,78]⟩,⟨#[87,72,69,82,69]⟩,⟨#[79,82,68,69,82]⟩,⟨#[66,89]⟩,⟨#[65,83,67]⟩,⟨#[68,69,83,67]⟩,⟨#[76,73,77,73,84]⟩,⟨#[65,83]⟩,⟨#[65,78,68]⟩,⟨#[79,82]⟩,⟨#[78,79,84]⟩,⟨#[73,83]⟩,⟨#[73,78]⟩,⟨#[66,69,84,87,69,69,78]⟩,⟨#[69,88,73,83,84,83]⟩,⟨#[78,85,76,76]⟩,⟨#[84,82,85,69]⟩,⟨#[70,65,76,83,69]⟩,⟨#[73,78,83,69,82,84]⟩,⟨#[73,78,84,79]⟩,⟨#[86,65,76,85,69,83]⟩,⟨#[85,80,68,65,84,69]⟩,⟨#[83,69,84]⟩,⟨#[68,69,76,69,84,69]⟩]
def kY:List ByteArray:=⟨#[]⟩::kws
theorem zh:List.range 29=[0,1,2,3,4,5,6,7,8,9,10,11,12,13,14,15,16,17,18,19,20,21,22,23,24,25,26,27,28]:=rfl
theorem Gq (α:Type) (a:α):List.replicate 29 a=[a,a,a,a,a,a,a,a,a,a,a,a,a,a,a,a,a,a,a,a,a,a,a,a,a,a,a,a,a]:=rfl
theorem tm:Cl Tryz.prog 168 [] [] fun r _=>r = .c (.sl 29 (kY.flatMap srow) none):=by
 refine ai ac false Tryz.func168 rfl ae ?_
 simp only[tt,seval,Tryz.f168,zh,Gq]
 refine⟨_,[],rfl,aq ?_⟩
 simp only[tt,seval,kY,kws,srow]
theorem zi {α:Type} {l:List α} {p:α->Bool} {i:Nat} (h:i<l.length) (hp:p l[i]=true) (hn:∀j (hj:j<i),p (l[j]'(by omega))=false):l.findIdx p=i:=(List.findIdx_eq h).2 ⟨hp,hn⟩
theorem ur {α:Type} {l:List α} {p:α->Bool} (hn:∀j (hj:j<l.length),p l[j]=false):l.findIdx p=l.length:=List.findIdx_eq_length_of_false fun x hx=>by
 obtain⟨j,hj,rfl⟩:=List.mem_iff_getElem.1 hx
 exact hn j hj
def mX (f:ByteArray) (l:List ByteArray):Int:=if l.findIdx (fun w=>decide (w=f))<l.length then l.findIdx (fun w=>decide (w=f)) else -1
def key (s:ByteArray):Int:=mX (d4 s) kws+1
theorem zj (l:List ByteArray) (f:ByteArray):Cl Tryz.prog 269 [.c (.sl l.length (l.flatMap srow) none),vs f] [] fun r _=>r=vi (mX f l):=by
 refine ai ac false Tryz.func269 rfl ae ?_
 simp only[Tryz.f269,tt,seval]
 refine fun _=>?_
 refine dLoop.intro (fun f' L p=>∃i:Nat,f' 8=vi i/\i<=l.length/\(∀j (hj:j<l.length),j<i->l[j]≠f)/\L=[]/\p=none) (fun f' _ _=>(l.length-fH (f' 8)).toNat) [] none ⟨ap _,au _,?_⟩ ?_
 ·simp only[tt,seval]
  exact⟨0,rfl,aa,fun j _ h=>absurd h (Nat.not_lt_zero _)⟩
 ·rintro g L p ⟨i,h8,hi,hn,rfl,rfl⟩
  simp only[tt,seval] at h8
  simp only[tt,seval,h8,Int.ofNat_lt]
  refine ab (fun hlt=>?_) (fun hge=>?_)
  ·refine⟨aa,aa,_,aI fM (aC hlt),ky _ _,?_⟩
   simp only[tt,seval,h8,srow]
   refine ab (fun he=>?_) (fun he=>?_)
   ·refine⟨_,_,kX ?_,ao rfl⟩
    rw[mX,zi hlt (by simp [he]) (fun j hj=>by simpa using hn j aa hj),if_pos hlt]
   ·rw[eR i aa]
    exact⟨[],none,ap _,au _,⟨i+1,rfl,aa,fun j hj hji=>by
     by_cases e:j=i
     ·subst e;exact fun h=>he h.symm
     ·exact hn j hj aa,rfl,rfl⟩,az⟩
  ·refine⟨_,_,kX ?_,ao rfl⟩
   rw[mX,ur (fun j hj=>by simpa using hn j hj aa),if_neg aa]
theorem mY (s:ByteArray):(d4 s).size=s.size:=by
 show (List.toArray _).size=_
 simp
theorem tn:∀w∈kws,w.size<=8:=by decide
theorem tq:kY.length=29:=rfl
theorem nV:kws.length=28:=rfl
theorem xQ {j:Nat} (h:j+1<kY.length):kY[j+1]=kws[j]'(by simp only[tq] at h;simp only[nV];omega):=rfl
theorem vG {s:ByteArray} (h:8<s.size):key s=0:=by
 unfold key mX
 rw[ur (l:=kws) (p:=fun w=>decide (w=d4 s)) (fun j hj=>aB fun e=>by
  have:=tn _ (aM hj)
  rw[e,mY] at this
  omega),if_neg (Nat.lt_irrefl _)]
 rfl
theorem zk (s:ByteArray) (hs:s.size<=1048576):Cl Tryz.prog 189 [vs s] [] fun r _=>r=vi (key s):=by
 refine ai ac false Tryz.func189 rfl ae ?_
 simp only[Tryz.f189,tt,seval]
 refine fun _=>ab (fun hlt=>?_) (fun hge=>?_)
 ·exact⟨_,_,kX (vG aa).symm,ao rfl⟩
 ·skip
  refine cZ (BM s hs) ?_ ?_<;>simp only[tt,seval]
  refine cZ (tm) ?_ ?_<;>simp only[tt,seval]
  refine dLoop.intro (fun f' L p=>∃i:Nat,f' 5=vi i/\1<=i/\i<=29/\(∀j (hj:j<kws.length),j+1<i->kws[j]≠d4 s)/\L=[]/\p=none) (fun f' _ _=>(29-fH (f' 5)).toNat) [] none ⟨ap _,au _,?_⟩ ?_
  ·simp only[tt,seval]
   exact⟨1,rfl,aa,aa,fun j _ h=>absurd h aa⟩
  ·rintro g L p ⟨i,h8,hi1,hi,hn,rfl,rfl⟩
   simp only[tt,seval] at h8
   simp only[tt,seval,h8]
   refine ab (fun hlt=>?_) (fun hge=>?_)
   ·have hlt':i<kY.length:=by rw[tq];omega
    obtain⟨j,rfl⟩:∃j,i=j+1:=⟨i-1,aa⟩
    have hj:j<kws.length:=by rw[nV];omega
    refine⟨aa,aa,_,aI fM (aC hlt'),ky _ _,?_⟩
    rw[xQ hlt']
    simp only[tt,seval,h8,srow]
    refine ab (fun he=>?_) (fun he=>?_)
    ·refine⟨_,_,kX ?_,ao rfl⟩
     rw[key,mX,zi hj (by simp [he]) (fun j' hj'=>by simpa using hn j' aa aa),if_pos hj]
     omega
    ·rw[aE (n:=((j+1:Nat):Int)+1) aa aa]
     exact⟨[],none,ap _,au _,⟨j+2,rfl,aa,aa,fun j' hj' hji=>by
      by_cases e:j'=j
      ·subst e;exact he
      ·exact hn j' hj' aa,rfl,rfl⟩,az⟩
   ·refine⟨_,_,kX ?_,ao rfl⟩
    rw[key,mX,ur (fun j hj=>by simpa using hn j hj (by rw[nV] at hj;omega)),if_neg aa]
    rfl
end Go.Proofs.YtdmomaomffhidaaGreatDoor
namespace Go.Proofs.YtdmomaomffhidaaGreatDoor
open Go Go.Shelf Go.Proofs
def Tryz.lays146_ren:Go.Shelf.Ren:=⟨fun|146=>178|221=>226|268=>259|138=>260|143=>232|195=>277|197=>278|218=>279|219=>267|260=>296|217=>265|225=>290|224=>291|267=>292|266=>289|314=>305|n=>n,fun|9=>9|31=>54|3=>3|4=>4|0=>0|105=>229|21=>21|5=>5|46=>202|119=>258|139=>261|138=>260|146=>255|51=>247|n=>n,fun|1=>0|3=>4|4=>5|n=>n⟩
theorem Tryz.lays146:Go.Proofs.Lays.n146 Tryz.prog Tryz.lays146_ren:={
 mixed:=by kernel_rfl
 f138:=Tryz.func260.trans (congrArg some ae)
 f143:=Tryz.func232.trans (congrArg some ae)
 f146:=Tryz.func178.trans (congrArg some ae)
 f195:=Tryz.func277.trans (congrArg some ae)
 f197:=Tryz.func278.trans (congrArg some ae)
 f217:=Tryz.func265.trans (congrArg some ae)
 f218:=Tryz.func279.trans (congrArg some ae)
 f219:=Tryz.func267.trans (congrArg some ae)
 f221:=Tryz.func226.trans (congrArg some ae)
 f224:=Tryz.func291.trans (congrArg some ae)
 f225:=Tryz.func290.trans (congrArg some ae)
 f260:=Tryz.func296.trans (congrArg some ae)
 f266:=Tryz.func289.trans (congrArg some ae)
 f267:=Tryz.func292.trans (congrArg some ae)
 f268:=Tryz.func259.trans (congrArg some ae)
 f314:=Tryz.func305.trans (congrArg some ae)
 t0:=Tryz.underlying0
 a0:=Tryz.isAgg0
 z0:=Tryz.sizeOf0
 v0:=Tryz.zeroValue0
 t3:=Tryz.underlying3
 a3:=Tryz.isAgg3
 z3:=Tryz.sizeOf3
 v3:=Tryz.zeroValue3
 t4:=Tryz.underlying4
 a4:=Tryz.isAgg4
 z4:=Tryz.sizeOf4
 v4:=Tryz.zeroValue4
 t5:=Tryz.underlying5
 a5:=Tryz.isAgg5
 z5:=Tryz.sizeOf5
 v5:=Tryz.zeroValue5
 t9:=Tryz.underlying9
 a9:=Tryz.isAgg9
 z9:=Tryz.sizeOf9
 v9:=Tryz.zeroValue9
 t21:=Tryz.underlying21
 a21:=Tryz.isAgg21
 z21:=Tryz.sizeOf21
 v21:=Tryz.zeroValue21
 t31:=Tryz.underlying54
 a31:=Tryz.isAgg54
 z31:=Tryz.sizeOf54
 v31:=Tryz.zeroValue54
 t46:=Tryz.underlying202
 a46:=Tryz.isAgg202
 z46:=Tryz.sizeOf202
 v46:=Tryz.zeroValue202
 t51:=Tryz.underlying247
 a51:=Tryz.isAgg247
 z51:=Tryz.sizeOf247
 v51:=Tryz.zeroValue247
 t105:=Tryz.underlying229
 a105:=Tryz.isAgg229
 z105:=Tryz.sizeOf229
 v105:=Tryz.zeroValue229
 t119:=Tryz.underlying258
 a119:=Tryz.isAgg258
 z119:=Tryz.sizeOf258
 t138:=Tryz.underlying260
 a138:=Tryz.isAgg260
 z138:=Tryz.sizeOf260
 v138:=Tryz.zeroValue260
 t139:=Tryz.underlying261
 a139:=Tryz.isAgg261
 z139:=Tryz.sizeOf261
 v139:=Tryz.zeroValue261
 t146:=Tryz.underlying255
 a146:=Tryz.isAgg255
 z146:=Tryz.sizeOf255
 v146:=Tryz.zeroValue255
 g1:=by kernel_rfl
 g3:=by kernel_rfl
 g4:=by kernel_rfl }
def Tryz.lays155_ren:Go.Shelf.Ren:=⟨fun|155=>293|154=>306|138=>260|165=>312|143=>232|166=>200|197=>278|169=>203|195=>277|218=>279|240=>242|241=>314|219=>267|260=>296|276=>274|277=>316|217=>265|225=>290|224=>291|267=>292|266=>289|314=>305|n=>n,fun|9=>9|3=>3|4=>4|72=>186|0=>0|76=>189|105=>229|21=>21|5=>5|70=>184|20=>20|37=>22|75=>188|127=>212|164=>226|46=>202|119=>258|139=>261|138=>260|146=>255|51=>247|80=>175|n=>n,fun|1=>0|3=>4|4=>5|n=>n⟩
theorem Tryz.lays155:Go.Proofs.Lays.n155 Tryz.prog Tryz.lays155_ren:={
 mixed:=by kernel_rfl
 f138:=Tryz.func260.trans (congrArg some ae)
 f143:=Tryz.func232.trans (congrArg some ae)
 f154:=Tryz.func306.trans (congrArg some ae)
 f155:=Tryz.func293.trans (congrArg some ae)
 f165:=Tryz.func312.trans (congrArg some ae)
 f166:=Tryz.func200.trans (congrArg some ae)
 f169:=Tryz.func203.trans (congrArg some ae)
 f195:=Tryz.func277.trans (congrArg some ae)
 f197:=Tryz.func278.trans (congrArg some ae)
 f217:=Tryz.func265.trans (congrArg some ae)
 f218:=Tryz.func279.trans (congrArg some ae)
 f219:=Tryz.func267.trans (congrArg some ae)
 f224:=Tryz.func291.trans (congrArg some ae)
 f225:=Tryz.func290.trans (congrArg some ae)
 f240:=Tryz.func242.trans (congrArg some ae)
 f241:=Tryz.func314.trans (congrArg some ae)
 f260:=Tryz.func296.trans (congrArg some ae)
 f266:=Tryz.func289.trans (congrArg some ae)
 f267:=Tryz.func292.trans (congrArg some ae)
 f276:=Tryz.func274.trans (congrArg some ae)
 f277:=Tryz.func316.trans (congrArg some ae)
 f314:=Tryz.func305.trans (congrArg some ae)
 t0:=Tryz.underlying0
 a0:=Tryz.isAgg0
 z0:=Tryz.sizeOf0
 v0:=Tryz.zeroValue0
 t3:=Tryz.underlying3
 a3:=Tryz.isAgg3
 z3:=Tryz.sizeOf3
 v3:=Tryz.zeroValue3
 t4:=Tryz.underlying4
 a4:=Tryz.isAgg4
 z4:=Tryz.sizeOf4
 v4:=Tryz.zeroValue4
 t5:=Tryz.underlying5
 a5:=Tryz.isAgg5
 z5:=Tryz.sizeOf5
 v5:=Tryz.zeroValue5
 t9:=Tryz.underlying9
 a9:=Tryz.isAgg9
 z9:=Tryz.sizeOf9
 v9:=Tryz.zeroValue9
 t20:=Tryz.underlying20
 a20:=Tryz.isAgg20
 z20:=Tryz.sizeOf20
 v20:=Tryz.zeroValue20
 t21:=Tryz.underlying21
 a21:=Tryz.isAgg21
 z21:=Tryz.sizeOf21
 v21:=Tryz.zeroValue21
 t37:=Tryz.underlying22
 a37:=Tryz.isAgg22
 z37:=Tryz.sizeOf22
 v37:=Tryz.zeroValue22
 t46:=Tryz.underlying202
 a46:=Tryz.isAgg202
 z46:=Tryz.sizeOf202
 v46:=Tryz.zeroValue202
 t51:=Tryz.underlying247
 a51:=Tryz.isAgg247
 z51:=Tryz.sizeOf247
 v51:=Tryz.zeroValue247
 t70:=Tryz.underlying184
 a70:=Tryz.isAgg184
 z70:=Tryz.sizeOf184
 v70:=Tryz.zeroValue184
 t72:=Tryz.underlying186
 a72:=Tryz.isAgg186
 z72:=Tryz.sizeOf186
 v72:=Tryz.zeroValue186
 t75:=Tryz.underlying188
 a75:=Tryz.isAgg188
 z75:=Tryz.sizeOf188
 v75:=Tryz.zeroValue188
 t76:=Tryz.underlying189
 a76:=Tryz.isAgg189
 z76:=Tryz.sizeOf189
 v76:=Tryz.zeroValue189
 t105:=Tryz.underlying229
 a105:=Tryz.isAgg229
 z105:=Tryz.sizeOf229
 v105:=Tryz.zeroValue229
 t119:=Tryz.underlying258
 a119:=Tryz.isAgg258
 z119:=Tryz.sizeOf258
 t127:=Tryz.underlying212
 a127:=Tryz.isAgg212
 z127:=Tryz.sizeOf212
 v127:=Tryz.zeroValue212
 t138:=Tryz.underlying260
 a138:=Tryz.isAgg260
 z138:=Tryz.sizeOf260
 v138:=Tryz.zeroValue260
 t139:=Tryz.underlying261
 a139:=Tryz.isAgg261
 z139:=Tryz.sizeOf261
 v139:=Tryz.zeroValue261
 t146:=Tryz.underlying255
 a146:=Tryz.isAgg255
 z146:=Tryz.sizeOf255
 v146:=Tryz.zeroValue255
 t164:=Tryz.underlying226
 a164:=Tryz.isAgg226
 z164:=Tryz.sizeOf226
 v164:=Tryz.zeroValue226
 g1:=by kernel_rfl
 g3:=by kernel_rfl
 g4:=by kernel_rfl }
theorem Tryz.Builder_Extra_155:Builder.Extra Tryz.prog Tryz.lays155_ren:={
 sizeBuilder:=by kernel_rfl
 liesBuilder:=by kernel_rfl
 t5:=Tryz.underlying5
 a5:=Tryz.isAgg5
 z5:=Tryz.sizeOf5
 v5:=Tryz.zeroValue5
 infoByte:=by kernel_rfl
 cellsByte:=by kernel_rfl
 sizeByte:=by kernel_rfl
 neB5:=by decide }
def Tryz.laysM171_ren:Go.Shelf.Ren:=⟨fun|171=>179|243=>227|246=>261|283=>280|284=>281|285=>282|286=>283|129=>298|317=>297|318=>299|319=>300|320=>301|337=>308|338=>309|n=>n,fun|3=>3|9=>9|2=>2|4=>4|171=>231|0=>0|53=>232|37=>22|5=>5|173=>235|212=>246|51=>247|20=>20|213=>248|46=>202|232=>267|233=>268|n=>n,fun|17=>1|18=>6|19=>7|n=>n⟩
theorem Tryz.laysM171:Go.Proofs.LaysM.n171 Tryz.prog Tryz.laysM171_ren:={
 mixed:=by kernel_rfl
 f129:=Tryz.func298.trans (congrArg some ae)
 f171:=Tryz.func179.trans (congrArg some ae)
 f243:=Tryz.func227.trans (congrArg some ae)
 f246:=Tryz.func261.trans (congrArg some ae)
 f283:=Tryz.func280.trans (congrArg some ae)
 f284:=Tryz.func281.trans (congrArg some ae)
 f285:=Tryz.func282.trans (congrArg some ae)
 f286:=Tryz.func283.trans (congrArg some ae)
 f317:=Tryz.func297.trans (congrArg some ae)
 f318:=Tryz.func299.trans (congrArg some ae)
 f319:=Tryz.func300.trans (congrArg some ae)
 f320:=Tryz.func301.trans (congrArg some ae)
 f337:=Tryz.func308.trans (congrArg some ae)
 f338:=Tryz.func309.trans (congrArg some ae)
 t0:=Tryz.underlying0
 a0:=Tryz.isAgg0
 z0:=Tryz.sizeOf0
 v0:=Tryz.zeroValue0
 t2:=Tryz.underlying2
 a2:=Tryz.isAgg2
 z2:=Tryz.sizeOf2
 v2:=Tryz.zeroValue2
 t3:=Tryz.underlying3
 a3:=Tryz.isAgg3
 z3:=Tryz.sizeOf3
 v3:=Tryz.zeroValue3
 t4:=Tryz.underlying4
 a4:=Tryz.isAgg4
 z4:=Tryz.sizeOf4
 v4:=Tryz.zeroValue4
 t5:=Tryz.underlying5
 a5:=Tryz.isAgg5
 z5:=Tryz.sizeOf5
 v5:=Tryz.zeroValue5
 t9:=Tryz.underlying9
 a9:=Tryz.isAgg9
 z9:=Tryz.sizeOf9
 v9:=Tryz.zeroValue9
 t20:=Tryz.underlying20
 a20:=Tryz.isAgg20
 z20:=Tryz.sizeOf20
 v20:=Tryz.zeroValue20
 t37:=Tryz.underlying22
 a37:=Tryz.isAgg22
 z37:=Tryz.sizeOf22
 v37:=Tryz.zeroValue22
 t46:=Tryz.underlying202
 a46:=Tryz.isAgg202
 z46:=Tryz.sizeOf202
 v46:=Tryz.zeroValue202
 t51:=Tryz.underlying247
 a51:=Tryz.isAgg247
 z51:=Tryz.sizeOf247
 v51:=Tryz.zeroValue247
 t53:=Tryz.underlying232
 a53:=Tryz.isAgg232
 z53:=Tryz.sizeOf232
 v53:=Tryz.zeroValue232
 t171:=Tryz.underlying231
 a171:=Tryz.isAgg231
 z171:=Tryz.sizeOf231
 v171:=Tryz.zeroValue231
 t173:=Tryz.underlying235
 a173:=Tryz.isAgg235
 z173:=Tryz.sizeOf235
 v173:=Tryz.zeroValue235
 t212:=Tryz.underlying246
 a212:=Tryz.isAgg246
 z212:=Tryz.sizeOf246
 v212:=Tryz.zeroValue246
 t213:=Tryz.underlying248
 a213:=Tryz.isAgg248
 z213:=Tryz.sizeOf248
 t232:=Tryz.underlying267
 a232:=Tryz.isAgg267
 z232:=Tryz.sizeOf267
 v232:=Tryz.zeroValue267
 t233:=Tryz.underlying268
 a233:=Tryz.isAgg268
 z233:=Tryz.sizeOf268
 v233:=Tryz.zeroValue268
 g17:=by kernel_rfl
 g18:=by kernel_rfl
 g19:=by kernel_rfl
 i0:=by kernel_rfl
 i2:=by kernel_rfl
 i3:=by kernel_rfl
 i4:=by kernel_rfl
 i5:=by kernel_rfl
 i9:=by kernel_rfl
 i20:=by kernel_rfl
 i37:=by kernel_rfl
 i46:=by kernel_rfl
 i51:=by kernel_rfl
 i53:=by kernel_rfl
 i171:=by kernel_rfl
 i173:=by kernel_rfl
 i212:=by kernel_rfl
 i232:=by kernel_rfl
 i233:=by kernel_rfl
 m17:=by kernel_rfl
 m18:=by kernel_rfl
 m19:=by kernel_rfl }
def Tryz.laysC172_ren:Go.Shelf.Ren:=⟨fun|172=>229|244=>263|245=>264|247=>284|279=>285|280=>286|281=>287|282=>288|287=>302|316=>303|171=>179|205=>304|321=>310|322=>311|243=>227|246=>261|283=>280|284=>281|285=>282|286=>283|129=>298|317=>297|318=>299|319=>300|320=>301|337=>308|338=>309|n=>n,fun|9=>9|3=>3|75=>188|76=>189|4=>4|5=>5|167=>237|37=>22|0=>0|85=>238|2=>2|168=>240|53=>232|175=>250|46=>202|210=>253|127=>212|145=>266|143=>264|21=>21|171=>231|173=>235|212=>246|51=>247|20=>20|213=>248|232=>267|233=>268|80=>175|n=>n,fun|15=>2|16=>3|17=>1|18=>6|19=>7|n=>n⟩
theorem Tryz.laysC172:Go.Proofs.LaysC.n172 Tryz.prog Tryz.laysC172_ren:={
 mixed:=by kernel_rfl
 f129:=Tryz.func298.trans (congrArg some ae)
 f171:=Tryz.func179.trans (congrArg some ae)
 f172:=Tryz.func229.trans (congrArg some ae)
 f205:=Tryz.func304.trans (congrArg some ae)
 f243:=Tryz.func227.trans (congrArg some ae)
 f244:=Tryz.func263.trans (congrArg some ae)
 f245:=Tryz.func264.trans (congrArg some ae)
 f246:=Tryz.func261.trans (congrArg some ae)
 f247:=Tryz.func284.trans (congrArg some ae)
 f279:=Tryz.func285.trans (congrArg some ae)
 f280:=Tryz.func286.trans (congrArg some ae)
 f281:=Tryz.func287.trans (congrArg some ae)
 f282:=Tryz.func288.trans (congrArg some ae)
 f283:=Tryz.func280.trans (congrArg some ae)
 f284:=Tryz.func281.trans (congrArg some ae)
 f285:=Tryz.func282.trans (congrArg some ae)
 f286:=Tryz.func283.trans (congrArg some ae)
 f287:=Tryz.func302.trans (congrArg some ae)
 f316:=Tryz.func303.trans (congrArg some ae)
 f317:=Tryz.func297.trans (congrArg some ae)
 f318:=Tryz.func299.trans (congrArg some ae)
 f319:=Tryz.func300.trans (congrArg some ae)
 f320:=Tryz.func301.trans (congrArg some ae)
 f321:=Tryz.func310.trans (congrArg some ae)
 f322:=Tryz.func311.trans (congrArg some ae)
 f337:=Tryz.func308.trans (congrArg some ae)
 f338:=Tryz.func309.trans (congrArg some ae)
 t0:=Tryz.underlying0
 a0:=Tryz.isAgg0
 z0:=Tryz.sizeOf0
 v0:=Tryz.zeroValue0
 t2:=Tryz.underlying2
 a2:=Tryz.isAgg2
 z2:=Tryz.sizeOf2
 v2:=Tryz.zeroValue2
 t3:=Tryz.underlying3
 a3:=Tryz.isAgg3
 z3:=Tryz.sizeOf3
 v3:=Tryz.zeroValue3
 t4:=Tryz.underlying4
 a4:=Tryz.isAgg4
 z4:=Tryz.sizeOf4
 v4:=Tryz.zeroValue4
 t5:=Tryz.underlying5
 a5:=Tryz.isAgg5
 z5:=Tryz.sizeOf5
 v5:=Tryz.zeroValue5
 t9:=Tryz.underlying9
 a9:=Tryz.isAgg9
 z9:=Tryz.sizeOf9
 v9:=Tryz.zeroValue9
 t20:=Tryz.underlying20
 a20:=Tryz.isAgg20
 z20:=Tryz.sizeOf20
 v20:=Tryz.zeroValue20
 t21:=Tryz.underlying21
 a21:=Tryz.isAgg21
 z21:=Tryz.sizeOf21
 v21:=Tryz.zeroValue21
 t37:=Tryz.underlying22
 a37:=Tryz.isAgg22
 z37:=Tryz.sizeOf22
 v37:=Tryz.zeroValue22
 t46:=Tryz.underlying202
 a46:=Tryz.isAgg202
 z46:=Tryz.sizeOf202
 v46:=Tryz.zeroValue202
 t51:=Tryz.underlying247
 a51:=Tryz.isAgg247
 z51:=Tryz.sizeOf247
 v51:=Tryz.zeroValue247
 t53:=Tryz.underlying232
 a53:=Tryz.isAgg232
 z53:=Tryz.sizeOf232
 v53:=Tryz.zeroValue232
 t75:=Tryz.underlying188
 a75:=Tryz.isAgg188
 z75:=Tryz.sizeOf188
 v75:=Tryz.zeroValue188
 t76:=Tryz.underlying189
 a76:=Tryz.isAgg189
 z76:=Tryz.sizeOf189
 v76:=Tryz.zeroValue189
 t85:=Tryz.underlying238
 a85:=Tryz.isAgg238
 z85:=Tryz.sizeOf238
 v85:=Tryz.zeroValue238
 t127:=Tryz.underlying212
 a127:=Tryz.isAgg212
 z127:=Tryz.sizeOf212
 v127:=Tryz.zeroValue212
 t143:=Tryz.underlying264
 a143:=Tryz.isAgg264
 z143:=Tryz.sizeOf264
 v143:=Tryz.zeroValue264
 t145:=Tryz.underlying266
 a145:=Tryz.isAgg266
 z145:=Tryz.sizeOf266
 v145:=Tryz.zeroValue266
 t167:=Tryz.underlying237
 a167:=Tryz.isAgg237
 z167:=Tryz.sizeOf237
 v167:=Tryz.zeroValue237
 t168:=Tryz.underlying240
 a168:=Tryz.isAgg240
 z168:=Tryz.sizeOf240
 v168:=Tryz.zeroValue240
 t171:=Tryz.underlying231
 a171:=Tryz.isAgg231
 z171:=Tryz.sizeOf231
 v171:=Tryz.zeroValue231
 t173:=Tryz.underlying235
 a173:=Tryz.isAgg235
 z173:=Tryz.sizeOf235
 v173:=Tryz.zeroValue235
 t175:=Tryz.underlying250
 a175:=Tryz.isAgg250
 z175:=Tryz.sizeOf250
 v175:=Tryz.zeroValue250
 t210:=Tryz.underlying253
 a210:=Tryz.isAgg253
 z210:=Tryz.sizeOf253
 v210:=Tryz.zeroValue253
 t212:=Tryz.underlying246
 a212:=Tryz.isAgg246
 z212:=Tryz.sizeOf246
 v212:=Tryz.zeroValue246
 t213:=Tryz.underlying248
 a213:=Tryz.isAgg248
 z213:=Tryz.sizeOf248
 t232:=Tryz.underlying267
 a232:=Tryz.isAgg267
 z232:=Tryz.sizeOf267
 v232:=Tryz.zeroValue267
 t233:=Tryz.underlying268
 a233:=Tryz.isAgg268
 z233:=Tryz.sizeOf268
 v233:=Tryz.zeroValue268
 g15:=by kernel_rfl
 g16:=by kernel_rfl
 g17:=by kernel_rfl
 g18:=by kernel_rfl
 g19:=by kernel_rfl
 t80:=Tryz.underlying175
 a80:=Tryz.isAgg175
 z80:=Tryz.sizeOf175
 v80:=Tryz.zeroValue175
 i0:=by kernel_rfl
 i2:=by kernel_rfl
 i3:=by kernel_rfl
 i4:=by kernel_rfl
 i5:=by kernel_rfl
 i9:=by kernel_rfl
 i20:=by kernel_rfl
 i21:=by kernel_rfl
 i37:=by kernel_rfl
 i46:=by kernel_rfl
 i51:=by kernel_rfl
 i53:=by kernel_rfl
 i75:=by kernel_rfl
 i76:=by kernel_rfl
 i80:=by kernel_rfl
 i85:=by kernel_rfl
 i127:=by kernel_rfl
 i143:=by kernel_rfl
 i145:=by kernel_rfl
 i167:=by kernel_rfl
 i168:=by kernel_rfl
 i171:=by kernel_rfl
 i173:=by kernel_rfl
 i175:=by kernel_rfl
 i210:=by kernel_rfl
 i212:=by kernel_rfl
 i232:=by kernel_rfl
 i233:=by kernel_rfl
 m15:=by kernel_rfl
 m16:=by kernel_rfl
 m17:=by kernel_rfl
 m18:=by kernel_rfl
 m19:=by kernel_rfl
 c0:=by kernel_rfl
 c2:=by kernel_rfl
 c3:=by kernel_rfl
 c4:=by kernel_rfl
 c5:=by kernel_rfl
 c9:=by kernel_rfl
 c20:=by kernel_rfl
 c21:=by kernel_rfl
 c37:=by kernel_rfl
 c46:=by kernel_rfl
 c51:=by kernel_rfl
 c53:=by kernel_rfl
 c75:=by kernel_rfl
 c76:=by kernel_rfl
 c80:=by kernel_rfl
 c85:=by kernel_rfl
 c127:=by kernel_rfl
 c143:=by kernel_rfl
 c145:=by kernel_rfl
 c167:=by kernel_rfl
 c168:=by kernel_rfl
 c171:=by kernel_rfl
 c173:=by kernel_rfl
 c175:=by kernel_rfl
 c210:=by kernel_rfl
 c212:=by kernel_rfl
 c213:=by kernel_rfl
 c232:=by kernel_rfl
 c233:=by kernel_rfl }
end Go.Proofs.YtdmomaomffhidaaGreatDoor
set_option maxRecDepth 8000
namespace Go.Proofs.YtdmomaomffhidaaGreatDoor
open Go Go.Dv
open Go.Vc (D dm dq cV bq)
open Go.RowKit (Below)
theorem H8 {w:World} {own:Nat->Prop} (h:GlW w own):∃ty lh,w.heap[1]?=some (.cells (Lib.pow10Tab.map fun z=>Value.int .u64 z).toArray ty lh):=by
 obtain⟨_,cs,ty,lh,h2,h3⟩:=h _ (List.mem_cons_self)
 exact⟨ty,lh,by rw[<-h3];exact h2⟩
theorem ut {w:World} {own:Nat->Prop} (h:GlW w own):∃m,w.cell? ⟨0,0,none⟩=some (.int .i64 m):=by
 obtain⟨_,cs,ty,lh,h2,m,h3⟩:=h _ (List.mem_cons_of_mem _ (List.mem_cons_self))
 exact⟨m,by simp only[World.cell?,h2];exact h3⟩
theorem xR (w:World) (k:Nat) (os:Array Obj):Below w.heap.size w (Go.Sort.grow (w.drewN k) os):=
 ⟨rfl,rfl,rfl,by simp [Go.Sort.grow,World.drewN],fun i hi=>by simp [Go.Sort.grow,World.drewN,Array.getElem?_append,hi]⟩
def df (n:Int):ByteArray:=⟨(Lib.itoa n).toArray⟩
theorem fc (u:Nat):∀k,u<10 ^ (k+1)->(Lib.decDigits u).length<=k+1:=by
 intro k
 induction k generalizing u with
 |zero=>intro h;rw[Lib.decDigits,dif_pos (by simpa using h)];simp
 |succ k ih=>
  intro h
  rw[Lib.decDigits]
  split
  ·simp
  ·have:=ih (u / 10) (by rw[Nat.pow_succ] at h;omega)
   simp only[aD,List.length_singleton];omega
theorem qT {n:Int} (h0 : -9223372036854775808<=n) (h1:n<=9223372036854775807):(Lib.itoa n).length<=20:=by
 unfold Lib.itoa
 split
 ·have:=fc n.natAbs 18 aa
  simp only[List.length_cons];omega
 ·have:=fc n.toNat 18 aa
  omega
theorem xS {n:Int} (h0 : -9223372036854775808<=n) (h1:n<=9223372036854775807):(df n).size<=20:=by
 show (List.toArray _).size<=20
 simpa using qT h0 h1
theorem H9 (n:Int) (h0 : -9223372036854775808<=n) (h1:n<=9223372036854775807):Cl Tryz.prog 179 [vi n] [] fun r _=>r=vs (df n):=
 Cl.ofVals ae [.int .i64 n] fun w hg=>by
  obtain⟨ty,lh,hp⟩:=H8 hg
  refine (Any.strconv_Itoa Tryz.laysM171 n h0 h1 w ?_).mono ?_
  ·unfold Lib.TabIs World.var?
   rw[show Tryz.prog.globalNamed _=some 1 by kernel_rfl]
   simp only[Option.bind_some,hp]
  ·rintro e w' ⟨rfl,k,os,rfl⟩
   have:=xS h0 h1
   exact⟨_,rfl,by show ByteArray.size _<=maxLen;simp only[maxLen];exact Nat.le_trans this ah,rfl,xR w k os⟩
end Go.Proofs.YtdmomaomffhidaaGreatDoor
set_option maxRecDepth 8000
namespace Go.Proofs.YtdmomaomffhidaaGreatDoor
open Go Go.Dv
open Go.Vc (D dm dq cV bq)
open Go.RowKit (Below)
open Go.Vc (CellF RowF ValsF eh)
def oZ:ByteArray:=⟨#[83,69,76,69,67,84,32,68,73,83,84,73,78,67,84,32,70,82,79,77,32,74,79,73,78,32,79,78,32,87,72,69,82,69,32,79,82,68,69,82,32,66,89,32,65,83,67,32,68,69,83,67,32,76,73,77,73,84,32,65,83,32,65,78,68,32,79,82,32,78,79,84,32,73,83,32,73,78,32,66,69,84,87,69,69,78,32,69,88,73,83,84,83,32,78,85,76,76,32,84,82,85,69,32,70,65,76,83,69,32,73,78,83,69,82,84,32,73,78,84,79,32,86,65,76,85,69,83,32,85,80,68,65,84,69,32,83,69,84,32,68,69,76,69,84,69]⟩
theorem Az:Lib.splitB ⟨#[32]⟩ 0 (Lib.countB oZ ⟨#[32]⟩) oZ=kws:=by decide +kernel
theorem AA:Lib.countB oZ ⟨#[32]⟩=27:=by decide +kernel
theorem tw (w:World):∀l:List ByteArray,(∀s∈l,s.size<=maxLen)->ValsF w (l.flatMap srow) (l.map Value.string) []
 | [],_=>rfl
 |s::r,h=>⟨[],[],⟨rfl,rfl,h s (by simp)⟩,tw w r fun x hx=>h x (by simp [hx]),rfl⟩
theorem tx (w w':World) (ty:TypeId) (l:List ByteArray) (hl:l≠[]) (hs:∀s∈l,s.size<=maxLen) (hn:l.length<=maxLen) (β:Nat->Option Nat) (hw:w'.heap[w.heap.size]?=some (.cells (l.map Value.string).toArray ty (0,0))) :
 RelS Tryz.prog w' β (fun b=>w.heap.size<=b) (.c (.sl l.length (l.flatMap srow) none)) (.slice (some ⟨w.heap.size,0,none⟩) l.length l.length):=by
 have hrow:RowF w' w.heap.size 0 (l.flatMap srow) []:=(tw w' l hs).row fun j v hj=>by
  rw[cell_of_row w' w.heap.size (0+j) _ _ _ hw];simpa using hj
 refine⟨[w.heap.size],⟨some ⟨w.heap.size,0,none⟩,l.length,rfl,Nat.le_refl _,hn,(fun e=>by cases e),.inr ⟨?_,w.heap.size,0,[],rfl,hrow,rfl⟩⟩,(fun b hb=>by simp at hb;omega),(fun _ e=>by cases e)⟩
 cases l with
 |nil=>exact absurd rfl hl
 |cons s r=>simp [srow]
theorem Em:Cl Tryz.prog 178 [vs oZ,vs ⟨#[32]⟩] [] fun r _=>r = .c (.sl 28 (kws.flatMap srow) none):=
 Cl.ofNew ae [.string oZ,.string ⟨#[32]⟩] fun w hg=>by
  obtain⟨m,hm⟩:=ut hg
  refine (Any.strings_Split Tryz.lays146 ae oZ ⟨#[32]⟩ m w ah hm ah).mono ?_
  rintro e w' ⟨rfl,rfl⟩
  rw[Az,AA]
  refine⟨_,_,rfl,rfl,by rfl,fun β=>tx w _ _ kws ah (fun s hs=>Nat.le_trans (tn s hs) ah) ah β (Go.heap_alloc_new w _),⟨rfl,rfl,rfl,by simp,fun i hi=>Go.heap_alloc_old w _ hi⟩⟩
theorem xT:Cl Tryz.prog 270 [] [] fun r _=>r = .c (.sl 28 (kws.flatMap srow) none):=by
 refine ai ac false Tryz.func270 rfl ae ?_
 simp only[tt,seval,Tryz.f270]
 refine iZ Em ?_ ?_ ?_
 ·decide
 ·simp only[tt,seval]
  rfl
 rintro r rfl
 simp only[tt,seval]
 exact⟨_,_,rfl,ao rfl⟩
theorem qU (s:ByteArray) (hs:s.size<=1048576):Cl Tryz.prog 235 [vs s] [] fun r _=>r=vi (key s):=by
 refine ai ac false Tryz.func235 rfl ae ?_
 simp only[Tryz.f235,tt,seval]
 refine cZ (xT) ?_ ?_<;>simp only[tt,seval]
 refine cZ (qC s hs) ?_ ?_<;>simp only[tt,seval]
 refine cZ (zj kws (d4 s)) ?_ ?_<;>simp only[tt,seval,nV]
 have h1 : -1<=mX (d4 s) kws/\mX (d4 s) kws<=28:=by
  unfold mX
  have:=nV
  split<;>omega
 rw[aE (n:=mX (d4 s) kws+1) aa aa]
 exact⟨_,_,rfl,ao rfl⟩
end Go.Proofs.YtdmomaomffhidaaGreatDoor
set_option maxRecDepth 8000
namespace Go.Proofs.YtdmomaomffhidaaGreatDoor
open Go Go.Dv
open Go.Vc (D dm dq cV bq)
def qV (b:Int):Bool:=mL b||decide (48<=b/\b<=57)
def gg (s:ByteArray):Bool:=decide (1<=s.size/\s.size<=20)&&(!decide (48<=((s.data.toList.headD 0).toNat:Int)/\((s.data.toList.headD 0).toNat:Int)<=57)&&(decide (key s=0)&&s.data.toList.all fun b=>qV b.toNat))
theorem gL {n:Nat} {d:Option Nat} {K:K0} {f:Rg} {L:Ob} {p:Po} {k:IntKind} {s:ByteArray} {i:Nat} {l:List UInt8} (hl:l=s.data.toList) (hi:i<l.length) :
 bN Tryz.prog n d (Instr.index 9 (.string s) (.int k (i:Int))) K f L p=K (put n f d (.c (.v (.int .u8 (l[i].toNat:Int))))) L p:=by
 subst hl
 have hi':i<s.size:=by rw[<-aK];exact hi
 rw[D9 ae aa aa]
 congr 6
theorem uu {n:Nat} {d:Option Nat} {K:K0} {f:Rg} {L:Ob} {p:Po} {k:IntKind} {s:ByteArray} {l:List UInt8} (hl:l=s.data.toList) (hi:0<l.length) :
 bN Tryz.prog n d (Instr.index 9 (.string s) (.int k 0)) K f L p=K (put n f d (.c (.v (.int .u8 (l[0].toNat:Int))))) L p:=gL (i:=0) hl hi
theorem xU (s:ByteArray):0<=key s:=by unfold key mX;split<;>omega
theorem lq (s:ByteArray) (hs:s.size<=1048576):Cl Tryz.prog 239 [vs s] [] fun r _=>r=vb (gg s):=by
 obtain⟨l,hl⟩:∃l,l=s.data.toList:=⟨_,rfl⟩
 have hll:l.length=s.size:=by rw[hl];exact aK s
 refine ai ac false Tryz.func239 rfl ae ?_
 simp only[Tryz.f239,tt,seval]
 refine cZ (jK s) ?_ ?_<;>simp only[tt,seval]
 cases hN:decide (1<=s.size/\s.size<=20) with
 |false=>
  simp only[tt,seval]
  exact⟨_,_,aT (by rw[gg,hN];rfl),ao rfl⟩
 |true=>
  have hN':=of_decide_eq_true hN
  have hp:(0:Int)<(s.size:Int):=by omega
  have hlp:0<l.length:=by omega
  simp only[tt,seval]
  rw[uu hl aa]
  simp only[tt,seval]
  refine cZ (qQ l[0].toNat) ?_ ?_<;>simp only[tt,seval]
  have hh:s.data.toList.headD 0=l[0]:=by rw[<-hl];cases l with|nil=>exact absurd hlp (Nat.lt_irrefl _)|cons x r=>rfl
  cases hF:decide ((48:Int)<=(l[0].toNat:Int)/\(l[0].toNat:Int)<=57) with
  |true=>
   simp only[tt,seval]
   exact⟨_,_,aT (by rw[gg,hN,hh,hF];rfl),ao rfl⟩
  |false=>
   simp only[tt,seval]
   refine cZ (zk s hs) ?_ ?_<;>simp only[tt,seval]
   have hk:=xU s
   refine ab (fun h=>?_) (fun h=>?_)
   ·exact⟨_,_,aT (by rw[gg,hN,hh,hF,aB (show ¬key s=0 by omega)];rfl),ao rfl⟩
   ·have hpn:gg s=l.all fun b=>qV b.toNat:=by rw[gg,hN,hh,hF,ax (show key s=0 by omega),<-hl];rfl
    rw[hpn]
    refine dLoop.intro (fun f' L p=>∃i:Nat,f' 3=vi i/\i<=s.size/\(∀j (hj:j<l.length),j<i->qV l[j].toNat=true)/\L=[]/\p=none) (fun f' _ _=>(s.size-fH (f' 3)).toNat) [] none ⟨ap _,au _,?_⟩ ?_
    ·simp only[tt,seval]
     exact⟨0,rfl,aa,fun j _ h=>absurd h (Nat.not_lt_zero _)⟩
    ·rintro g L p ⟨i,h3,hi,hn,rfl,rfl⟩
     simp only[tt,seval] at h3
     simp only[tt,seval,h3,Int.ofNat_lt]
     refine fun _=>ab (fun hlt=>?_) (fun hge=>?_)
     ·have hil:i<l.length:=by omega
      rw[gL hl hil]
      simp only[tt,seval]
      refine cZ (xP l[i].toNat) ?_ ?_<;>simp only[tt,seval]
      cases hL:mL l[i].toNat with
      |true=>
       simp only[tt,seval,h3]
       rw[eR i aa]
       exact⟨[],none,ap _,au _,⟨i+1,rfl,aa,fun j hj hji=>by
        by_cases e:j=i
        ·subst e;rw[qV,hL];rfl
        ·exact hn j hj aa,rfl,rfl⟩,az⟩
      |false=>
       simp only[tt,seval,h3]
       rw[gL hl hil]
       simp only[tt,seval]
       refine cZ (qQ l[i].toNat) ?_ ?_<;>simp only[tt,seval,h3]
       refine ab (fun h=>?_) (fun h=>?_)
       ·simp only[Bool.not_eq_true',decide_eq_false_iff_not] at h
        refine⟨_,_,aT ?_,ao rfl⟩
        refine (Bool.eq_false_iff.2 fun e=>?_).symm
        have:=List.all_eq_true.1 e _ (aM hil)
        rw[qV,hL,Bool.false_or,decide_eq_true_eq] at this
        exact h this
       ·simp only[Bool.not_eq_false',decide_eq_true_eq] at h
        rw[eR i aa]
        exact⟨[],none,ap _,au _,⟨i+1,rfl,aa,fun j hj hji=>by
         by_cases e:j=i
         ·subst e;rw[qV,hL,Bool.false_or,decide_eq_true_eq];omega
         ·exact hn j hj aa,rfl,rfl⟩,az⟩
     ·refine⟨_,_,aT ?_,ao rfl⟩
      refine (List.all_eq_true.2 fun x hx=>?_).symm
      obtain⟨j,hj,rfl⟩:=List.mem_iff_getElem.1 hx
      exact hn j hj aa
def bL (c:UInt8) (l:List UInt8):List UInt8:=l.flatMap fun b=>if b=c then [c,c] else [b]
def kz (c:UInt8) (s:ByteArray):ByteArray:=⟨(c::(bL c s.data.toList++[c])).toArray⟩
theorem kA (c:UInt8) (l:List UInt8):(bL c l).length<=2*l.length:=by
 induction l with
 |nil=>simp [bL]
 |cons b r ih=>
  unfold bL at *
  rw[List.flatMap_cons,aD,List.length_cons]
  split<;>simp only[List.length_cons,List.length_nil]<;>omega
theorem pL {c:UInt8} {l:List UInt8} {i:Nat} (h:i<l.length):bL c (l.take (i+1))=bL c (l.take i)++(if l[i]=c then [c,c] else [l[i]]):=by
 unfold bL
 rw[List.take_succ_eq_append_getElem h,List.flatMap_append,List.flatMap_cons,List.flatMap_nil,List.append_nil]
theorem fy (l:List UInt8) (b:UInt8):aY l++[D.lit (.int .u8 (b.toNat:Int))]=aY (l++[b]):=by simp [aY]
theorem tz (s:ByteArray) (c:UInt8) (hs:s.size<=1048576):Cl Tryz.prog 240 [vs s,vu (c.toNat:Int)] [] fun r _=>r=vs (kz c s):=by
 obtain⟨l,hl⟩:∃l,l=s.data.toList:=⟨_,rfl⟩
 have hll:l.length=s.size:=by rw[hl];exact aK s
 refine ai ac false Tryz.func240 rfl ae ?_
 simp only[Tryz.f240,tt,seval]
 refine dLoop.gh [.ren 8 29] ⟨ah,ah,?_⟩
 refine dLoop0.intro (fun f L p=>∃(i:Nat) (bs:List UInt8),f 6=vi i/\f 5 = .c (.s 29 bs.length)/\i<=s.size/\bs=c::bL c (l.take i)/\L=[(29,.arr 5 bs.length (aY bs) none)]/\p=none) (fun f _ _=>(s.size-fH (f 6)).toNat) [(29,.arr 5 1 (aY [c]) none)] none ⟨ak rfl (ap _),au _,?_⟩ ?_
 ·simp only[tt,seval]
  exact⟨0,[c],rfl,rfl,aa,rfl,rfl⟩
 ·rintro g L p ⟨i,bs,h6,h5,hi,hbs,rfl,rfl⟩
  simp only[tt,seval] at h6 h5
  have hbl:bs.length<=1+2*i:=by
   have:=kA c (l.take i)
   rw[hbs,List.length_cons]
   rw[List.length_take] at this;omega
  simp only[tt,seval,h6,h5,Int.ofNat_lt]
  refine fun _=>ab (fun hlt=>?_) (fun hge=>?_)
  ·have hil:i<l.length:=by omega
   rw[gL hl hil]
   simp only[tt,seval,h6,h5]
   refine ab (fun heq=>?_) (fun hne=>?_)
   ·have hc:l[i]=c:=UInt8.toNat_inj.1 aa
    refine qA ?_
    rw[gL hl hil,fy]
    simp only[tt,seval,h6]
    refine qA ?_
    rw[fy,aE (n:=(i:Int)+1) aa aa]
    refine⟨[(29,.arr 5 (bs++[c]++[l[i]]).length (aY (bs++[c]++[l[i]])) none)],none,ak (by simp [Go.Dv.look,Nat.add_assoc]) (ap _),au _,⟨i+1,bs++[c]++[l[i]],rfl,by simp,aa,?_,rfl,rfl⟩,az⟩
    rw[pL hil,if_pos hc,hbs,hc];simp
   ·have hc:¬l[i]=c:=fun e=>hne (by rw[e])
    rw[gL hl hil]
    simp only[tt,seval,h6]
    refine qA ?_
    rw[fy,aE (n:=(i:Int)+1) aa aa]
    refine⟨[(29,.arr 5 (bs++[l[i]]).length (aY (bs++[l[i]])) none)],none,ak (by simp [Go.Dv.look]) (ap _),au _,⟨i+1,bs++[l[i]],rfl,by simp,aa,?_,rfl,rfl⟩,az⟩
    rw[pL hil,if_neg hc,hbs];simp
  ·have:i=s.size:=by omega
   subst this
   refine qA ?_
   rw[fy]
   refine⟨ae,by simp only[maxLen];omega,bs++[c],by simp,rfl,?_⟩
   simp only[tt,seval]
   refine⟨_,_,mW ?_,ao rfl⟩
   rw[hbs,<-hll,List.take_length,hl];rfl
end Go.Proofs.YtdmomaomffhidaaGreatDoor
set_option maxRecDepth 8000
namespace Go.Proofs.YtdmomaomffhidaaGreatDoor
open Go Go.Dv
open Go.Vc (D dm dq cV bq)
open Go.RowKit (Below)
open Go.Vc (eh)
theorem lr (c:UInt8):∀l:List UInt8,c ∉ l->Lib.index l [c] = -1
 | [],_=>rfl
 |b::l,h=>by
  simp only[List.mem_cons,not_or] at h
  have ih:=lr c l h.2
  have hb:([c]:List UInt8).isPrefixOf (b::l)=false:=by simp [List.isPrefixOf,h.1]
  simp [Lib.index,hb,ih]
theorem tA (c:UInt8):∀a r:List UInt8,c ∉ a->Lib.index (a++c::r) [c]=a.length
 | [],r,_=>by simp [Lib.index,List.isPrefixOf]
 |b::a,r,h=>by
  simp only[List.mem_cons,not_or] at h
  have ih:=tA c a r h.2
  have hb:([c]:List UInt8).isPrefixOf (b::(a++c::r))=false:=by simp [List.isPrefixOf,h.1]
  have hne:¬((a.length:Int) = -1):=by omega
  simp [Lib.index,hb,ih,hne]
theorem lu {c:UInt8}:∀ {l:List UInt8},c ∉ l->bL c l=l
 | [],_=>rfl
 |b::l,h=>by
  simp only[List.mem_cons,not_or] at h
  have ih:=lu h.2
  unfold bL at *
  rw[List.flatMap_cons,ih,if_neg (fun e=>h.1 e.symm)];rfl
theorem uv (c:UInt8):∀(n:Nat) (l:List UInt8),l.length<=n->Lib.replaceK [c] [c,c] (Lib.count l [c]) l=bL c l:=by
 intro n
 induction n with
 |zero=>
  intro l h
  have:l=[]:=List.eq_nil_of_length_eq_zero aa
  subst this
  rw[Lib.count_miss (lr c [] (by simp))];rfl
 |succ n ih=>
  intro l h
  by_cases hc:c∈l
  ·obtain⟨a,r,rfl,ha⟩:=List.eq_append_cons_of_mem hc
   have hi:=tA c a r ha
   have hdrop:(a++c::r).drop (a.length+[c].length)=r:=by
    rw[show a++c::r=(a++[c])++r by simp,List.drop_left' (by simp)]
   rw[Lib.count_hit (by simp) hi,Nat.add_comm,Lib.replaceK_hit _ _ _ _ _ hi,hdrop,ih r (by simp at h;omega),List.take_left' rfl]
   unfold bL
   rw[List.flatMap_append,List.flatMap_cons,if_pos rfl]
   have:=lu ha
   unfold bL at this
   rw[this];simp
  ·rw[Lib.count_miss (lr c l hc),lu hc];rfl
theorem qW (c:UInt8) (l:List UInt8):Lib.replaceAll l [c] [c,c]=bL c l:=by
 have hne:([c]==[c,c])=false:=by simp
 unfold Lib.replaceAll Lib.replace Lib.replaceNum
 rw[hne,if_neg (by simp),if_pos (by simp)]
 exact uv c l.length l (Nat.le_refl _)
theorem data_append (a b:ByteArray):(a++b).data.toList=a.data.toList++b.data.toList:=by rw[ByteArray.data_append,Array.toList_append]
def one (c:UInt8):ByteArray:=⟨#[c]⟩
theorem vH (c:UInt8):(one c++one c).data.toList=[c,c]:=by rw[data_append];rfl
theorem uw (s:ByteArray) (c:UInt8) (hs:s.size<=1048576):Cl Tryz.prog 293 [vs s,vs (one c),vs (one c++one c)] [] fun r _=>r=vs ⟨(bL c s.data.toList).toArray⟩:=
 Cl.ofVals ae [.string s,.string (one c),.string (one c++one c)] fun w hg=>by
  obtain⟨m,hm⟩:=ut hg
  have h2:(one c++one c).size=2:=by rw[<-aK,vH];rfl
  have hcnt:Lib.countB s (one c)<=s.size:=Lib.countB_le (one c) (Nat.le_refl 1) s.size s (Nat.le_refl _)
  refine (Any.strings_ReplaceAll Tryz.lays155 Tryz.Builder_Extra_155 s (one c) (one c++one c) m w aa hm (Nat.le_refl 1) (by rw[h2];omega)).mono ?_
  rintro e w' ⟨rfl,hb⟩
  rw[vH,show (one c).data.toList=[c] from rfl,qW]
  refine⟨_,rfl,?_,rfl,hb⟩
  show (List.toArray _).size<=maxLen
  have:=kA c s.data.toList
  rw[aK] at this
  simp only[List.size_toArray,maxLen];omega
theorem mZ {a b:ByteArray} (h:a.data.toList=b.data.toList):a=b:=by
 obtain⟨⟨x⟩⟩:=a;obtain⟨⟨y⟩⟩:=b
 simp only at h;rw[h]
theorem BN (a b:ByteArray):(a++b).size=a.size+b.size:=by rw[<-aK,data_append,aD,aK,aK]
theorem BO (s:ByteArray) (c:UInt8) (hs:s.size<=1048576):Cl Tryz.prog 275 [vs s,vs (one c)] [] fun r _=>r=vs (kz c s):=by
 have h1:(one c).size=1:=rfl
 refine ai ac false Tryz.func275 rfl ae ?_
 simp only[Tryz.f275,tt,seval]
 rw[iA aa]
 refine cZ (uw s c hs) ?_ ?_<;>simp only[tt,seval]
 have hq:(⟨(bL c s.data.toList).toArray⟩:ByteArray).size<=2*s.size:=by
  have:=kA c s.data.toList
  rw[aK] at this
  show (List.toArray _).size<=_
  simpa using this
 rw[iA aa]
 simp only[tt,seval]
 rw[iA (by rw[BN];omega)]
 simp only[tt,seval]
 exact⟨_,_,mW (mZ (by rw[data_append,data_append];simp [one,kz])),ao rfl⟩
def mO (s:ByteArray):ByteArray:=if 1<=s.size/\s.size<=20 then (if gg s=true then s else kz 34 s) else ⟨#[]⟩
theorem vI (s:ByteArray) (hs:s.size<=1048576):Cl Tryz.prog 196 [vs s] [] fun r _=>r=vs (kz 39 s):=by
 refine ai ac false Tryz.func196 rfl ae ?_
 simp only[Tryz.f196,tt,seval]
 refine cZ (tz s 39 hs) ?_ ?_<;>simp only[tt,seval]
 exact⟨_,_,rfl,ao rfl⟩
theorem ux (s:ByteArray) (hs:s.size<=1048576):Cl Tryz.prog 244 [vs s] [] fun r _=>r=vs (kz 39 s):=by
 refine ai ac false Tryz.func244 rfl ae ?_
 simp only[Tryz.f244,tt,seval]
 refine cZ (BO s 39 hs) ?_ ?_<;>simp only[tt,seval,one]
 exact⟨_,_,rfl,ao rfl⟩
theorem xV (s:ByteArray) (hs:s.size<=1048576):Cl Tryz.prog 195 [vs s] [] fun r _=>r=vs (mO s):=by
 refine ai ac false Tryz.func195 rfl ae ?_
 simp only[Tryz.f195,tt,seval]
 refine cZ (jK s) ?_ ?_<;>simp only[tt,seval]
 refine ab (fun h=>?_) (fun h=>?_)
 ·exact⟨_,_,mW (by rw[mO,if_neg (by simpa only[Bool.not_eq_true',decide_eq_false_iff_not] using h)]),ao rfl⟩
 ·skip
  refine cZ (lq s hs) ?_ ?_<;>simp only[tt,seval]
  have h':1<=s.size/\s.size<=20:=by simpa only[Bool.not_eq_false',decide_eq_true_eq] using h
  refine ab (fun hp=>?_) (fun hp=>?_)
  ·exact⟨_,_,mW (by rw[mO,if_pos h',if_pos hp]),ao rfl⟩
  ·skip
   refine cZ (tz s 34 hs) ?_ ?_<;>simp only[tt,seval]
   exact⟨_,_,mW (by rw[mO,if_pos h',if_neg (by rw[hp];simp)]),ao rfl⟩
end Go.Proofs.YtdmomaomffhidaaGreatDoor
set_option maxRecDepth 8000
namespace Go.Proofs.YtdmomaomffhidaaGreatDoor
open Go Go.Dv
open Go.Vc (D dm dq cV bq)
def dC (v:Val):Bool:=
 if v.kind=0 then decide (v.num=0)&&decide (v.text=⟨#[]⟩) else if v.kind=1 then decide (v.text=⟨#[]⟩)
 else if v.kind=2 then decide (v.num=0)&&decide ((v.text.size:Int)<=200) else if v.kind=3 then decide (0<=v.num/\v.num<=1)&&decide (v.text=⟨#[]⟩) else false
theorem AB (v:Val):Cl Tryz.prog 262 [.ag (aw v.row)] [] fun r _=>r=vb (dC v):=by
 rw[Val.row]
 refine ai ac false Tryz.func262 rfl ae ?_
 simp only[Tryz.f262,tt,seval]
 refine ab (fun h0=>?_) (fun h0=>?_)
 ·refine ab (fun h=>?_) (fun h=>?_)<;>simp only[tt,seval]
  ·exact⟨_,_,aT (by rw[dC,if_pos h0,h];rfl),ao rfl⟩
  ·exact⟨_,_,aT (by rw[dC,if_pos h0,h];rfl),ao rfl⟩
 ·try simp only[tt,seval]
  refine ab (fun h1=>?_) (fun h1=>?_)
  ·exact⟨_,_,aT (by rw[dC,if_neg h0,if_pos h1]),ao rfl⟩
  ·try simp only[tt,seval]
   refine ab (fun h2=>?_) (fun h2=>?_)
   ·refine ab (fun h=>?_) (fun h=>?_)<;>simp only[tt,seval]
    ·exact fun _=>⟨_,_,aT (by rw[dC,if_neg h0,if_neg h1,if_pos h2,h];rfl),ao rfl⟩
    ·exact⟨_,_,aT (by rw[dC,if_neg h0,if_neg h1,if_pos h2,h];rfl),ao rfl⟩
   ·try simp only[tt,seval]
    refine ab (fun h3=>?_) (fun h3=>?_)
    ·try simp only[tt,seval]
     refine cZ (dv v.num 0 1) ?_ ?_<;>simp only[tt,seval]
     cases hn:decide ((0:Int)<=v.num/\v.num<=1)<;>simp only[tt,seval]
     ·exact⟨_,_,aT (by rw[dC,if_neg h0,if_neg h1,if_neg h2,if_pos h3,hn];rfl),ao rfl⟩
     ·exact⟨_,_,aT (by rw[dC,if_neg h0,if_neg h1,if_neg h2,if_pos h3,hn];rfl),ao rfl⟩
    ·exact⟨_,_,aT (by rw[dC,if_neg h0,if_neg h1,if_neg h2,if_neg h3]),ao rfl⟩
theorem qX (v:Val):Cl Tryz.prog 251 [.ag (aw v.row)] [] fun r _=>r=vb (dC v):=by
 rw[Val.row]
 refine ai ac false Tryz.func251 rfl ae ?_
 simp only[Tryz.f251,tt,seval]
 refine ab (fun h0=>?_) (fun h0=>?_)
 ·refine ab (fun h=>?_) (fun h=>?_)<;>simp only[tt,seval]
  ·exact⟨_,_,aT (by rw[dC,if_pos h0,h];rfl),ao rfl⟩
  ·exact⟨_,_,aT (by rw[dC,if_pos h0,h];rfl),ao rfl⟩
 ·try simp only[tt,seval]
  refine ab (fun h1=>?_) (fun h1=>?_)
  ·exact⟨_,_,aT (by rw[dC,if_neg h0,if_pos h1]),ao rfl⟩
  ·try simp only[tt,seval]
   refine ab (fun h2=>?_) (fun h2=>?_)
   ·refine ab (fun h=>?_) (fun h=>?_)<;>simp only[tt,seval]
    ·exact fun _=>⟨_,_,aT (by rw[dC,if_neg h0,if_neg h1,if_pos h2,h];rfl),ao rfl⟩
    ·exact⟨_,_,aT (by rw[dC,if_neg h0,if_neg h1,if_pos h2,h];rfl),ao rfl⟩
   ·try simp only[tt,seval]
    refine ab (fun h3=>?_) (fun h3=>?_)
    ·have fin:∀b:Bool,decide ((0:Int)<=v.num/\v.num<=1)=b->dC v=(b&&decide (v.text=⟨#[]⟩)):=fun b hb=>by rw[dC,if_neg h0,if_neg h1,if_neg h2,if_pos h3,hb]
     by_cases hz:v.num=0
     ·simp only[tt,seval,ax hz]
      exact⟨_,_,aT (by rw[fin true (ax aa)];rfl),ao rfl⟩
     ·simp only[tt,seval,aB hz]
      by_cases ho:v.num=1
      ·simp only[tt,seval,ax ho]
       exact⟨_,_,aT (by rw[fin true (ax aa)];rfl),ao rfl⟩
      ·simp only[tt,seval,aB ho]
       exact⟨_,_,aT (by rw[fin false (aB aa)];rfl),ao rfl⟩
    ·exact⟨_,_,aT (by rw[dC,if_neg h0,if_neg h1,if_neg h2,if_neg h3]),ao rfl⟩
def qY (v:Val):ByteArray:=
 if dC v=false then ⟨#[63]⟩ else if v.kind=1 then df v.num else if v.kind=2 then kz 39 v.text else if v.kind=3 then (if v.num=1 then ⟨#[84,82,85,69]⟩ else ⟨#[70,65,76,83,69]⟩) else ⟨#[78,85,76,76]⟩
theorem mq (n:Int) (h0 : -9223372036854775808<=n) (h1:n<=9223372036854775807):Cl Tryz.prog 93 [vi n] [] fun r _=>r=vs (df n):=by
 refine ai ac false Tryz.func93 rfl ae ?_
 simp only[Tryz.f93,tt,seval]
 refine cZ (H9 n h0 h1) ?_ ?_<;>simp only[tt,seval]
 exact⟨_,_,rfl,ao rfl⟩
def sg (b:Bool) (k:Nat):Int:=if b=true then -(k:Int) else k
theorem Ha (b:Bool) (k:Nat):(sg b k).tmod 10=sg b (k % 10):=by
 unfold sg;split
 ·rw[Int.neg_tmod];rfl
 ·rfl
theorem BP (b:Bool) (k:Nat):(sg b k).tdiv 10=sg b (k / 10):=by
 unfold sg;split
 ·rw[Int.neg_tdiv];rfl
 ·rfl
theorem zl (b:Bool) (k:Nat):sg b k=0↔k=0:=by unfold sg;split<;>omega
def p6 (k:Nat):UInt8:=UInt8.ofNat (48+k % 10)
theorem BQ (k:Nat):((p6 k).toNat:Int)=48+(k % 10:Nat):=by
 unfold p6
 rw[UInt8.toNat_ofNat']
 omega
theorem lw {k:Nat} (h:k / 10≠0):Lib.decDigits k=Lib.decDigits (k / 10)++[p6 k]:=by
 rw[Lib.decDigits,dif_neg aa];rfl
theorem kZ {k:Nat} (h:k / 10=0):Lib.decDigits k=[p6 k]:=by
 have:k % 10=k:=by omega
 rw[Lib.decDigits,dif_pos aa,p6,this]
theorem qZ (n:Int) (h0 : -9223372036854775808<=n) (h1:n<=9223372036854775807):Cl Tryz.prog 119 [vi n] [] fun r _=>r=vs (df n):=by
 obtain⟨b,hb⟩:∃b,b=decide (n<0):=⟨_,rfl⟩
 refine ai ac false Tryz.func119 rfl ae ?_
 simp only[Tryz.f119,tt,seval]
 refine ab (fun hz=>?_) (fun hz=>?_)
 ·subst hz
  exact⟨_,_,mW (show (⟨#[48]⟩:ByteArray)=df 0 by unfold df Lib.itoa;rw[if_neg aa,Lib.decDigits,dif_pos ah];rfl),ao rfl⟩
 ·rw[<-hb]
  refine dLoop.intro (fun f L p=>∃(k:Nat) (o:List UInt8),f 0=vi (sg b k)/\f 4=vs ⟨o.toArray⟩/\k<=n.natAbs/\Lib.decDigits n.natAbs=(if k=0 then o else Lib.decDigits k++o)/\L=[]/\p=none) (fun f _ _=>(fH (f 0)).natAbs) [] none ⟨ap _,au _,?_⟩ ?_
  ·simp only[tt,seval]
   refine⟨n.natAbs,[],kX ?_,rfl,Nat.le_refl _,?_⟩
   ·rw[sg,hb];simp only[decide_eq_true_eq];split<;>omega
   ·rw[if_neg aa,List.append_nil]
  ·rintro g L p ⟨k,o,hk,ho,hkn,hd,rfl,rfl⟩
   simp only[tt,seval] at hk ho
   have hol:o.length<=20:=by
    have h2:=qT h0 h1
    have h3:(Lib.decDigits n.natAbs).length<=20:=fc n.natAbs 19 aa
    rw[hd] at h3
    split at h3
    ·exact h3
    ·rw[aD] at h3;omega
   simp only[tt,seval,hk,ho,Ha]
   refine ab (fun hne=>?_) (fun heq=>?_)
   ·have hk0:k≠0:=by
     simp only[Bool.not_eq_true',decide_eq_false_iff_not,zl] at hne;exact hne
    have hdv:=BQ k
    refine ab (fun hneg=>?_) (fun hpos=>?_)
    ·have hs:sg b (k % 10) = -((k % 10:Nat):Int):=by
      unfold sg at hneg ⊢
      split at hneg
      ·rename_i h;rw[if_pos h]
      ·omega
     have hval:IntKind.u8.wrap (IntKind.i64.wrap (48+IntKind.i64.wrap (0-sg b (k % 10))))=((p6 k).toNat:Int):=by
      rw[hs,aE (n:=0 - -((k % 10:Nat):Int)) aa aa,aE aa aa,IntWalk.u8_in _ aa,hdv];omega
     refine⟨ae,ah,[p6 k],rfl,by rw[hval];rfl,?_⟩
     simp only[tt,seval,ho]
     have hsz:(⟨[p6 k].toArray⟩:ByteArray).size+(⟨o.toArray⟩:ByteArray).size=1+o.length:=by show (List.toArray _).size+(List.toArray _).size=_;simp
     rw[iA (by rw[hsz];omega)]
     simp only[tt,seval,hk,BP]
     rw[aE (n:=sg b (k / 10)) (by rw[sg];split<;>omega) (by rw[sg];split<;>omega)]
     refine⟨[],none,ap _,au _,⟨k / 10,p6 k::o,rfl,mW (mZ (by rw[data_append];simp)),aa,?_,rfl,rfl⟩,?_⟩
     ·rw[hd,if_neg hk0]
      split
      ·rename_i h;rw[kZ h];rfl
      ·rename_i h;rw[lw h];simp
     ·simp only[fH,sg];split<;>omega
    ·have hs:sg b (k % 10)=((k % 10:Nat):Int):=by
      unfold sg at hpos ⊢
      split at hpos
      ·rename_i h;rw[if_pos h];omega
      ·rename_i h;rw[if_neg h]
     have hval:IntKind.u8.wrap (IntKind.i64.wrap (48+sg b (k % 10)))=((p6 k).toNat:Int):=by
      rw[hs,aE aa aa,IntWalk.u8_in _ aa,hdv]
     refine⟨ae,ah,[p6 k],rfl,by rw[hval];rfl,?_⟩
     simp only[tt,seval,ho]
     have hsz:(⟨[p6 k].toArray⟩:ByteArray).size+(⟨o.toArray⟩:ByteArray).size=1+o.length:=by show (List.toArray _).size+(List.toArray _).size=_;simp
     rw[iA (by rw[hsz];omega)]
     simp only[tt,seval,hk,BP]
     rw[aE (n:=sg b (k / 10)) (by rw[sg];split<;>omega) (by rw[sg];split<;>omega)]
     refine⟨[],none,ap _,au _,⟨k / 10,p6 k::o,rfl,mW (mZ (by rw[data_append];simp)),aa,?_,rfl,rfl⟩,?_⟩
     ·rw[hd,if_neg hk0]
      split
      ·rename_i h;rw[kZ h];rfl
      ·rename_i h;rw[lw h];simp
     ·simp only[fH,sg];split<;>omega
   ·have hk0:k=0:=by
     simp only[Bool.not_eq_false',decide_eq_true_eq,zl] at heq;exact heq
    subst hk0
    rw[if_pos rfl] at hd
    refine ab (fun hb1=>?_) (fun hb0=>?_)
    ·have hn:n<0:=by rw[hb] at hb1;exact of_decide_eq_true hb1
     have hsz:(⟨#[45]⟩:ByteArray).size+(⟨o.toArray⟩:ByteArray).size=1+o.length:=by show 1+(List.toArray _).size=_;simp
     rw[iA (by rw[hsz];omega)]
     simp only[tt,seval]
     exact⟨_,_,mW (mZ (by rw[data_append];simp [df,Lib.itoa,hn,hd])),ao rfl⟩
    ·have hn:¬n<0:=by rw[hb] at hb0;exact of_decide_eq_false hb0
     have e:n.toNat=n.natAbs:=by omega
     exact⟨_,_,mW (mZ (by simp [df,Lib.itoa,hn,e,hd])),ao rfl⟩
theorem uy (v:Val) (h0 : -9223372036854775808<=v.num) (h1:v.num<=9223372036854775807) (hs:v.text.size<=1048576):Cl Tryz.prog 211 [.ag (aw v.row)] [] fun r _=>r=vs (qY v):=by
 rw[Val.row]
 refine ai ac false Tryz.func211 rfl ae ?_
 simp only[Tryz.f211,tt,seval]
 refine cZ (qX v) ?_ ?_<;>simp only[tt,seval,Val.row]
 refine ab (fun hk=>?_) (fun hk=>?_)
 ·exact⟨_,_,mW (by rw[qY,if_pos (by simpa only[Bool.not_eq_true'] using hk)]),ao rfl⟩
 ·have hk':¬dC v=false:=by simpa only[Bool.not_eq_false',Bool.not_eq_false] using hk
  refine ab (fun k1=>?_) (fun k1=>?_)
  ·skip
   refine cZ (mq v.num h0 h1) ?_ ?_<;>simp only[tt,seval]
   exact⟨_,_,mW (by rw[qY,if_neg hk',if_pos k1]),ao rfl⟩
  ·try simp only[tt,seval]
   refine ab (fun k2=>?_) (fun k2=>?_)
   ·skip
    refine cZ (ux v.text hs) ?_ ?_<;>simp only[tt,seval]
    exact⟨_,_,mW (by rw[qY,if_neg hk',if_neg k1,if_pos k2]),ao rfl⟩
   ·try simp only[tt,seval]
    refine ab (fun k3=>?_) (fun k3=>?_)
    ·try simp only[tt,seval]
     refine ab (fun k4=>?_) (fun k4=>?_)
     ·exact⟨_,_,mW (by rw[qY,if_neg hk',if_neg k1,if_neg k2,if_pos k3,if_pos k4]),ao rfl⟩
     ·exact⟨_,_,mW (by rw[qY,if_neg hk',if_neg k1,if_neg k2,if_pos k3,if_neg k4]),ao rfl⟩
    ·exact⟨_,_,mW (by rw[qY,if_neg hk',if_neg k1,if_neg k2,if_neg k3]),ao rfl⟩
theorem kB (a b:List UInt8):aY a++aY b=aY (a++b):=by simp [aY]
end Go.Proofs.YtdmomaomffhidaaGreatDoor
set_option maxRecDepth 8000
namespace Go.Proofs.YtdmomaomffhidaaGreatDoor
open Go Go.Dv
open Go.Vc (D dm dq cV bq)
open Go.Lib in
theorem nc:∀(l:List UInt8) (acc m:Nat),decFrom acc l=some m->acc<=m
 | [],acc,m,h=>by simp only[decFrom,Option.some.injEq] at h;omega
 |b::r,acc,m,h=>by
  simp only[decFrom] at h
  split at h
  ·have:=nc r _ m h;omega
  ·cases h
open Go.Lib in
theorem tB:∀(l:List UInt8) (acc m:Nat),decFrom acc l=some m->m<18446744073709551616->parseUint10 acc l = .ok m
 | [],acc,m,h,_=>by simp only[decFrom,Option.some.injEq] at h;subst h;rfl
 |b::r,acc,m,h,hm=>by
  simp only[decFrom,digitVal] at h
  split at h
  ·rename_i d hd
   split at hd
   ·rename_i hb
    injection hd with hd
    have:=nc r _ m h
    simp only[parseUint10,if_pos hb]
    rw[if_neg aa,if_neg aa,hd]
    exact tB r _ m h hm
   ·cases hd
  ·cases h
open Go.Lib in
theorem im:∀(l:List UInt8) (acc:Nat) (b:UInt8),decFrom acc (l++[b])=match decFrom acc l,digitVal b with|some n,some d=>some (n*10+d)|_,_=>none
 | [],acc,b=>by simp only[List.nil_append,decFrom];cases digitVal b<;>rfl
 |c::r,acc,b=>by
  simp only[List.cons_append,decFrom]
  cases digitVal c with
  |none=>rfl
  |some d=>exact im r _ b
open Go.Lib in
theorem uz {l:List UInt8} {i:Nat} {b:UInt8} (hb:l[i]?=some b) (hd:digitVal b=none):∀acc,decFrom acc l=none:=by
 induction l generalizing i with
 |nil=>simp at hb
 |cons c r ih=>
  intro acc
  simp only[decFrom]
  cases i with
  |zero=>simp only[List.getElem?_cons_zero,Option.some.injEq] at hb;subst hb;rw[hd]
  |succ i=>
   cases digitVal c with
   |none=>rfl
   |some d=>exact ih (by simpa using hb) _
open Go.Lib in
theorem pM {d:Nat} (h:d<10):digitVal (UInt8.ofNat (48+d))=some d:=by
 have e:(UInt8.ofNat (48+d)).toNat=48+d:=by simp;omega
 unfold digitVal
 rw[e,if_pos aa]
 congr 1;omega
open Go.Lib in
theorem iN (u:Nat):decFrom 0 (decDigits u)=some u:=by
 induction u using Nat.strongRecOn with
 |ind u ih=>
  rw[decDigits]
  split
  ·rename_i h
   have:=im [] 0 (UInt8.ofNat (48+u))
   rw[pM h] at this
   simpa [decFrom] using this
  ·rename_i h
   rw[im,ih (u / 10) aa,pM aa]
   simp only[Option.some.injEq];omega
open Go.Lib in
theorem lx (u:Nat):∃b r,decDigits u=b::r/\48<=b.toNat/\b.toNat<=57:=by
 induction u using Nat.strongRecOn with
 |ind u ih=>
  rw[decDigits]
  split
  ·rename_i h
   exact⟨_,[],rfl,by simp;omega,by simp;omega⟩
  ·rename_i h
   obtain⟨b,r,h1,h2⟩:=ih (u / 10) aa
   rw[h1]
   exact⟨b,_,rfl,h2⟩
open Go.Lib in
def io (l:List UInt8):Option Nat:=match decFrom 0 l with
 |some m=>if m<9223372036854775808/\decDigits m=l then some m else none
 |none=>none
open Go.Lib in
theorem dt {l:List UInt8} {m:Nat}:io l=some m↔m<9223372036854775808/\decDigits m=l:=by
 unfold io
 constructor
 ·intro h
  split at h
  ·split at h
   ·rename_i hc;injection h with h;subst h;exact hc
   ·cases h
  ·cases h
 ·rintro⟨h1,rfl⟩
  rw[iN]
  simp [h1]
open Go.Lib in
theorem ly (m:Nat):itoa (m:Int)=decDigits m:=by
 unfold itoa
 rw[if_neg aa];rfl
open Go.Lib in
theorem p8 {l:List UInt8} {m:Nat} (h:io l=some m):atoiAll l = .ok (m:Int):=by
 obtain⟨h1,rfl⟩:=dt.1 h
 obtain⟨b,r,hb,h2,h3⟩:=lx m
 have hd:=iN m
 rw[hb] at hd ⊢
 rw[atoiAll_plain b r aa aa]
 unfold parseMag
 rw[if_neg (by simp),tB _ _ _ hd aa]
 simp only[signless]
 rw[if_neg aa]
open Go.Lib in
theorem AC {l:List UInt8} {v:Int} (h:atoiAll l = .ok v) (h0:0<=v) (hi:itoa v=l):io l=some v.toNat:=by
 have hb:=atoiAll_bounds h
 refine dt.2 ⟨aa,?_⟩
 rw[<-hi]
 unfold itoa
 rw[if_neg aa]
end Go.Proofs.YtdmomaomffhidaaGreatDoor
set_option maxRecDepth 8000
namespace Go.Proofs.YtdmomaomffhidaaGreatDoor
open Go Go.Dv
open Go.Vc (D dm dq cV bq)
abbrev irow (n:Int):List D:=[int n]
mutual
inductive Expr where
 |mk (kind:Int) (op:Int) (not:Bool) (val:Val) (qual:ByteArray) (name:ByteArray) (kids:List Expr) (sub:List Query)
inductive Item where
 |mk (star:Bool) (qual:ByteArray) (e:Expr) (as_:ByteArray)
inductive Source where
 |mk (table:ByteArray) (as_:ByteArray) (on:List Expr)
inductive SortKey where
 |mk (e:Expr) (desc:Bool)
inductive Query where
 |mk (distinct:Bool) (items:List Item) (from_:List Source) (where_:List Expr) (order:List SortKey) (limit:Int)
end
mutual
def Expr.row:Expr->List D
 |.mk kind op not val qual name kids sub=>int kind::int op::bool not::int val.kind::int val.num::str val.text::str qual::str name :: .sl kids.length (iO kids) :: .sl sub.length (jM sub)::[]
def Item.row:Item->List D
 |.mk star qual e as_=>bool star::str qual::(e.row++str as_::[])
def Source.row:Source->List D
 |.mk table as_ on=>str table::str as_ :: .sl on.length (iO on)::[]
def SortKey.row:SortKey->List D
 |.mk e desc=>(e.row++bool desc::[])
def Query.row:Query->List D
 |.mk distinct items from_ where_ order limit=>bool distinct :: .sl items.length (lz items) :: .sl from_.length (iP from_) :: .sl where_.length (iO where_) :: .sl order.length (gM order)::int limit::[]
def iO:List Expr->List D
 | []=>[]
 |x::r=>x.row++iO r
def lz:List Item->List D
 | []=>[]
 |x::r=>x.row++lz r
def jM:List Query->List D
 | []=>[]
 |x::r=>x.row++jM r
def gM:List SortKey->List D
 | []=>[]
 |x::r=>x.row++gM r
def iP:List Source->List D
 | []=>[]
 |x::r=>x.row++iP r
end
theorem jj:∀l:List Expr,iO l=l.flatMap Expr.row
 | []=>by rw[iO,List.flatMap_nil]
 |x::r=>by rw[iO,List.flatMap_cons,jj r]
theorem pN:∀l:List Item,lz l=l.flatMap Item.row
 | []=>by rw[lz,List.flatMap_nil]
 |x::r=>by rw[lz,List.flatMap_cons,pN r]
theorem nW:∀l:List Query,jM l=l.flatMap Query.row
 | []=>by rw[jM,List.flatMap_nil]
 |x::r=>by rw[jM,List.flatMap_cons,nW r]
theorem lA:∀l:List SortKey,gM l=l.flatMap SortKey.row
 | []=>by rw[gM,List.flatMap_nil]
 |x::r=>by rw[gM,List.flatMap_cons,lA r]
theorem mP:∀l:List Source,iP l=l.flatMap Source.row
 | []=>by rw[iP,List.flatMap_nil]
 |x::r=>by rw[iP,List.flatMap_cons,mP r]
theorem Expr.row_mk (kind:Int) (op:Int) (not:Bool) (val:Val) (qual:ByteArray) (name:ByteArray) (kids:List Expr) (sub:List Query):(Expr.mk kind op not val qual name kids sub).row=int kind::int op::bool not::int val.kind::int val.num::str val.text::str qual::str name :: .sl kids.length (kids.flatMap Expr.row) :: .sl sub.length (sub.flatMap Query.row)::[]:=by rw[Expr.row];rw[jj];rw[nW]
theorem Item.row_mk (star:Bool) (qual:ByteArray) (e:Expr) (as_:ByteArray):(Item.mk star qual e as_).row=bool star::str qual::(e.row++str as_::[]):=by rw[Item.row]
theorem Source.row_mk (table:ByteArray) (as_:ByteArray) (on:List Expr):(Source.mk table as_ on).row=str table::str as_ :: .sl on.length (on.flatMap Expr.row)::[]:=by rw[Source.row];rw[jj]
theorem SortKey.row_mk (e:Expr) (desc:Bool):(SortKey.mk e desc).row=(e.row++bool desc::[]):=by rw[SortKey.row]
theorem Query.row_mk (distinct:Bool) (items:List Item) (from_:List Source) (where_:List Expr) (order:List SortKey) (limit:Int):(Query.mk distinct items from_ where_ order limit).row=bool distinct :: .sl items.length (items.flatMap Item.row) :: .sl from_.length (from_.flatMap Source.row) :: .sl where_.length (where_.flatMap Expr.row) :: .sl order.length (order.flatMap SortKey.row)::int limit::[]:=by rw[Query.row];rw[jj];rw[pN];rw[lA];rw[mP]
theorem Expr.row_len (x:Expr):x.row.length=10:=by cases x;simp [Expr.row]
theorem Expr.tk (x:Expr) (r:List D):fQ 10 (x.row++r)=some x.row:=cT (Expr.row_len x)
theorem Expr.ne (x:Expr) (r:List D):x.row++r≠[]:=fun h=>by have:=congrArg List.length h;simp [Expr.row_len] at this
theorem Source.row_len (x:Source):x.row.length=3:=by cases x;simp [Source.row]
theorem Source.ne (x:Source) (r:List D):x.row++r≠[]:=fun h=>by have:=congrArg List.length h;simp [Source.row_len] at this
theorem Query.row_len (x:Query):x.row.length=6:=by cases x;simp [Query.row]
theorem Query.tk (x:Query) (r:List D):fQ 6 (x.row++r)=some x.row:=cT (Query.row_len x)
theorem Query.ne (x:Query) (r:List D):x.row++r≠[]:=fun h=>by have:=congrArg List.length h;simp [Query.row_len] at this
theorem Item.row_len (x:Item):x.row.length=13:=by cases x;simp [Item.row,Expr.row_len]
theorem Item.tk (x:Item) (r:List D):fQ 13 (x.row++r)=some x.row:=cT (Item.row_len x)
theorem Item.ne (x:Item) (r:List D):x.row++r≠[]:=fun h=>by have:=congrArg List.length h;simp [Item.row_len] at this
theorem SortKey.row_len (x:SortKey):x.row.length=11:=by cases x;simp [SortKey.row,Expr.row_len]
theorem SortKey.ne (x:SortKey) (r:List D):x.row++r≠[]:=fun h=>by have:=congrArg List.length h;simp [SortKey.row_len] at this
mutual
def szExpr:Expr->Nat
 |.mk kind op not val qual name kids sub=>lp val+(qual.size+(name.size+(bw kids+(cL sub))))
def iQ:Item->Nat
 |.mk star qual e as_=>qual.size+(szExpr e+(as_.size))
def cF:Source->Nat
 |.mk table as_ on=>table.size+(as_.size+(bw on))
def ei:SortKey->Nat
 |.mk e desc=>szExpr e
def szQuery:Query->Nat
 |.mk distinct items from_ where_ order limit=>fN items+(cB from_+(bw where_+(dR order)))
def bw:List Expr->Nat
 | []=>0
 |x::r=>szExpr x+1+bw r
def fN:List Item->Nat
 | []=>0
 |x::r=>iQ x+1+fN r
def cL:List Query->Nat
 | []=>0
 |x::r=>szQuery x+1+cL r
def dR:List SortKey->Nat
 | []=>0
 |x::r=>ei x+1+dR r
def cB:List Source->Nat
 | []=>0
 |x::r=>cF x+1+cB r
end
theorem aP:∀l:List Expr,bw l=l.length+(l.map szExpr).sum
 | []=>by rw[bw];rfl
 |x::r=>by rw[bw,aP r,List.length_cons,List.map_cons,List.sum_cons];omega
theorem dS:∀l:List Item,fN l=l.length+(l.map iQ).sum
 | []=>by rw[fN];rfl
 |x::r=>by rw[fN,dS r,List.length_cons,List.map_cons,List.sum_cons];omega
theorem bO:∀l:List Query,cL l=l.length+(l.map szQuery).sum
 | []=>by rw[cL];rfl
 |x::r=>by rw[cL,bO r,List.length_cons,List.map_cons,List.sum_cons];omega
theorem cK:∀l:List SortKey,dR l=l.length+(l.map ei).sum
 | []=>by rw[dR];rfl
 |x::r=>by rw[dR,cK r,List.length_cons,List.map_cons,List.sum_cons];omega
theorem cX:∀l:List Source,cB l=l.length+(l.map cF).sum
 | []=>by rw[cB];rfl
 |x::r=>by rw[cB,cX r,List.length_cons,List.map_cons,List.sum_cons];omega
theorem bh (kind:Int) (op:Int) (not:Bool) (val:Val) (qual:ByteArray) (name:ByteArray) (kids:List Expr) (sub:List Query):szExpr (.mk kind op not val qual name kids sub)=lp val+(qual.size+(name.size+(bw kids+(cL sub)))):=by rw[szExpr]
theorem iD (star:Bool) (qual:ByteArray) (e:Expr) (as_:ByteArray):iQ (.mk star qual e as_)=qual.size+(szExpr e+(as_.size)):=by rw[iQ]
theorem cM (table:ByteArray) (as_:ByteArray) (on:List Expr):cF (.mk table as_ on)=table.size+(as_.size+(bw on)):=by rw[cF]
theorem iq (e:Expr) (desc:Bool):ei (.mk e desc)=szExpr e:=by rw[ei]
theorem bU (distinct:Bool) (items:List Item) (from_:List Source) (where_:List Expr) (order:List SortKey) (limit:Int):szQuery (.mk distinct items from_ where_ order limit)=fN items+(cB from_+(bw where_+(dR order))):=by rw[szQuery]
structure Tok where
 kind:Int
 text:ByteArray
 at_:Int
def Tok.row (t:Tok):List D:=[int t.kind,str t.text,int t.at_]
theorem Tok.row_len (t:Tok):t.row.length=3:=rfl
theorem Tok.tk (t:Tok) (r:List D):fQ 3 (t.row++r)=some t.row:=cT rfl
theorem Tok.ne (t:Tok) (r:List D):t.row++r≠[]:=fun h=>by cases h
def signs:List ByteArray:=[⟨#[40]⟩,⟨#[41]⟩,⟨#[44]⟩,⟨#[46]⟩,⟨#[42]⟩,⟨#[43]⟩,⟨#[45]⟩,⟨#[47]⟩,⟨#[37]⟩,⟨#[61]⟩,⟨#[60,62]⟩,⟨#[60]⟩,⟨#[60,61]⟩,⟨#[62]⟩,⟨#[62,61]⟩,⟨#[124,124]⟩]
def dD (s:ByteArray):Bool:=signs.any fun x=>decide (s=x)
theorem BR (s:ByteArray):Cl Tryz.prog 192 [vs s] [] fun r _=>r=vb (dD s):=by
 refine ai ac false Tryz.func192 rfl ae ?_
 simp only[Tryz.f192,tt,seval]
 all_goals repeat' first|(refine ab (fun h=>?_) (fun h=>?_)<;>try simp only[tt,seval])|(intro _;try simp only[tt,seval])
 all_goals first|contradiction|exact⟨_,_,aT (by simp [dD,signs, *]),ao rfl⟩
theorem zm:Cl Tryz.prog 238 [] [] fun r _=>r = .c (.sl 16 (signs.flatMap srow) none):=by
 refine ai ac false Tryz.func238 rfl ae ?_
 simp only[tt,seval,Tryz.f238]
 refine⟨_,[],rfl,aq ?_⟩
 simp only[tt,seval,signs,srow]
theorem AD (s:ByteArray):decide (0<=mX s signs)=dD s:=by
 unfold mX dD
 by_cases h:signs.findIdx (fun w=>decide (w=s))<signs.length
 ·rw[if_pos h]
  have:=List.findIdx_getElem (w:=h)
  have hm:=aM h
  refine (ax aa).trans (Eq.symm ?_)
  rw[List.any_eq_true]
  exact⟨_,hm,by simpa [eq_comm] using this⟩
 ·rw[if_neg h]
  refine (aB aa).trans (Eq.symm ?_)
  rw[List.any_eq_false]
  intro x hx
  have:=List.findIdx_lt_length (xs:=signs) (p:=fun w=>decide (w=s))
  simp only[h,false_iff,not_exists,not_and] at this
  simpa [eq_comm] using this x hx
theorem xW (s:ByteArray):Cl Tryz.prog 273 [.c (.sl 16 (signs.flatMap srow) none),vs s] [] fun r _=>r=vb (dD s):=by
 refine ai ac false Tryz.func273 rfl ae ?_
 simp only[Tryz.f273,tt,seval]
 refine cZ (zj signs s) ?_ ?_<;>simp only[tt,seval,show signs.length=16 from rfl]
 exact⟨_,_,aT (by rw[<-AD]),ao rfl⟩
theorem AE (s:ByteArray):Cl Tryz.prog 241 [vs s] [] fun r _=>r=vb (dD s):=by
 refine ai ac false Tryz.func241 rfl ae ?_
 simp only[Tryz.f241,tt,seval]
 refine cZ (zm) ?_ ?_<;>simp only[tt,seval]
 refine cZ (xW s) ?_ ?_<;>simp only[tt,seval]
 exact⟨_,_,rfl,ao rfl⟩
def Hb:List ByteArray:=⟨#[]⟩::[⟨#[79,82]⟩,⟨#[65,78,68]⟩,⟨#[61]⟩,⟨#[60,62]⟩,⟨#[60]⟩,⟨#[60,61]⟩,⟨#[62]⟩,⟨#[62,61]⟩,⟨#[124,124]⟩,⟨#[43]⟩,⟨#[45]⟩,⟨#[42]⟩,⟨#[47]⟩,⟨#[37]⟩,⟨#[78,79,84]⟩,⟨#[45]⟩]
def j8 (k:Int):ByteArray:=if 1<=k/\k<=16 then Hb.getD k.toNat ⟨#[]⟩ else ⟨#[]⟩
def kw (k:Nat):ByteArray:=kY.getD k ⟨#[]⟩
end Go.Proofs.YtdmomaomffhidaaGreatDoor
set_option maxRecDepth 8000
namespace Go.Proofs.YtdmomaomffhidaaGreatDoor
open Go Go.Dv
open Go.Vc (D dm dq cV bq)
open Go.RowKit (Below)
theorem AF (k:Nat) (h1:1<=k) (h2:k<=28):Cl Tryz.prog 197 [vi k] [] fun r _=>r=vs (kw k):=by
 refine ai ac false Tryz.func197 rfl ae ?_
 simp only[Tryz.f197,tt,seval]
 refine cZ (dv k 1 28) ?_ ?_<;>simp only[tt,seval]
 simp only[tt,seval,ax (show (1:Int)<=k/\(k:Int)<=28 by omega)]
 refine cZ (tm) ?_ ?_<;>simp only[tt,seval]
 have hlt:k<kY.length:=by show _<29;omega
 refine⟨aa,aa,_,aI fM (aC hlt),ky _ _,?_⟩
 simp only[tt,seval,srow]
 exact⟨_,_,mW (by rw[kw,List.getD_eq_getElem?_getD,aC hlt];rfl),ao rfl⟩
theorem Eo:([.lit (.string ⟨#[]⟩),.lit (.string ⟨#[79,82]⟩),.lit (.string ⟨#[65,78,68]⟩),.lit (.string ⟨#[61]⟩),.lit (.string ⟨#[60,62]⟩),.lit (.string ⟨#[60]⟩),.lit (.string ⟨#[60,61]⟩),.lit (.string ⟨#[62]⟩),.lit (.string ⟨#[62,61]⟩),.lit (.string ⟨#[124,124]⟩),.lit (.string ⟨#[43]⟩),.lit (.string ⟨#[45]⟩),.lit (.string ⟨#[42]⟩),.lit (.string ⟨#[47]⟩),.lit (.string ⟨#[37]⟩),.lit (.string ⟨#[78,79,84]⟩),.lit (.string ⟨#[45]⟩)]:List D)=Hb.flatMap srow:=rfl
theorem BS:([.lit (.string ⟨#[79,82]⟩),.lit (.string ⟨#[65,78,68]⟩),.lit (.string ⟨#[61]⟩),.lit (.string ⟨#[60,62]⟩),.lit (.string ⟨#[60]⟩),.lit (.string ⟨#[60,61]⟩),.lit (.string ⟨#[62]⟩),.lit (.string ⟨#[62,61]⟩),.lit (.string ⟨#[124,124]⟩),.lit (.string ⟨#[43]⟩),.lit (.string ⟨#[45]⟩),.lit (.string ⟨#[42]⟩),.lit (.string ⟨#[47]⟩),.lit (.string ⟨#[37]⟩),.lit (.string ⟨#[78,79,84]⟩),.lit (.string ⟨#[45]⟩)]:List D)=Hb.tail.flatMap srow:=rfl
theorem nX (k:Int):Cl Tryz.prog 217 [vi k] [] fun r _=>r=vs (j8 k):=by
 refine ai ac false Tryz.func217 rfl ae ?_
 simp only[Tryz.f217,tt,seval]
 refine cZ (dv k 1 16) ?_ ?_<;>simp only[tt,seval]
 refine ab (fun hc=>?_) (fun hc=>?_)
 ·exact⟨_,_,mW (by rw[j8,if_neg (by simpa only[Bool.not_eq_true',decide_eq_false_iff_not] using hc)]),ao rfl⟩
 ·have hc:1<=k/\k<=16:=by simpa only[Bool.not_eq_false',decide_eq_true_eq] using hc
  have hlt:k.toNat<Hb.length:=by show _<17;omega
  refine⟨aa,aa,?_⟩
  rw[Eo,aI fM (aC hlt)]
  simp only[tt,seval,srow]
  exact⟨_,_,mW (by rw[j8,if_pos hc,List.getD_eq_getElem?_getD,aC hlt];rfl),ao rfl⟩
theorem gj (k:Int):Cl Tryz.prog 212 [vi k] [] fun r _=>r=vs (j8 k):=by
 refine ai ac false Tryz.func212 rfl ae ?_
 simp only[Tryz.f212,tt,seval]
 by_cases h1:k<1
 ·simp only[tt,seval,ax h1]
  exact⟨_,_,mW (by rw[j8,if_neg aa]),ao rfl⟩
 ·simp only[tt,seval,aB h1]
  refine ab (fun h2=>?_) (fun h2=>?_)
  ·exact⟨_,_,mW (by rw[j8,if_neg aa]),ao rfl⟩
  ·have hc:1<=k/\k<=16:=by omega
   have hlt:(k-1).toNat<Hb.tail.length:=by show _<16;omega
   rw[aE (n:=k-1) aa aa]
   refine⟨aa,aa,?_⟩
   rw[BS,aI fM (aC hlt)]
   simp only[tt,seval,srow]
   have hlt':k.toNat<Hb.length:=by show _<17;omega
   refine⟨_,_,mW ?_,ao rfl⟩
   rw[j8,if_pos hc,List.getD_eq_getElem?_getD,aC hlt']
   simp only[List.getElem_tail,Option.getD_some,show (k-1).toNat+1=k.toNat by omega]
theorem zn:Tryz.prog.underlying 188=some (.interface (Tryz.prog.methodsAt 188)):=by kernel_rfl
theorem Ep {n:Nat} {d:Option Nat} {K:K0} {f:Rg} {L:Ob} {p:Po} {x:Operand}:bN Tryz.prog n d (do eqGuard .neq 188 x (.const .nilIface) .nilIface .nilIface;binOp .neq 188 .nilIface .nilIface) K f L p=K (put n f d (.c (.v (.bool false)))) L p:=
 bg (fun w=>by rw[Sem.run_bind];simp [eqGuard,run_neq_nil_nil w 188 zn]) trivial
theorem Hc {n:Nat} {d:Option Nat} {K:K0} {f:Rg} {L:Ob} {p:Po} {x y:Operand} {u:TypeId} {v:Value}:bN Tryz.prog n d (do eqGuard .neq 188 x y (.iface u v) .nilIface;binOp .neq 188 (.iface u v) .nilIface) K f L p=K (put n f d (.c (.v (.bool true)))) L p:=
 bg (fun w=>by rw[Sem.run_bind];simp [eqGuard,run_neq_held_nil w 188 u v zn]) trivial
theorem Er {w:World} {own:Nat->Prop} (h:GlW w own):(∃v,w.cell? ⟨2,0,none⟩=some v/\(v = .nilIface∨∃t p,v = .iface t p))/\(∃v,w.cell? ⟨3,0,none⟩=some v/\(v = .nilIface∨∃t p,v = .iface t p)):=by
 constructor
 ·obtain⟨_,cs,ty,lh,h2,v,h3,h4⟩:=h _ (List.mem_cons_of_mem _ (List.mem_cons_of_mem _ (List.mem_cons_self)))
  exact⟨v,by simp only[World.cell?,h2];exact h3,h4⟩
 ·obtain⟨_,cs,ty,lh,h2,v,h3,h4⟩:=h _ (List.mem_cons_of_mem _ (List.mem_cons_of_mem _ (List.mem_cons_of_mem _ (List.mem_cons_self))))
  exact⟨v,by simp only[World.cell?,h2];exact h3,h4⟩
def IX (s:ByteArray) (r:S):Prop:=∃n e,r = .tu [([.v (.int .i64 n)],true),([.v e],true)]/\((e = .nilIface/\Lib.atoiAll s.data.toList = .ok n)∨((∃t p,e = .iface t p)/\∀v,Lib.atoiAll s.data.toList ≠ .ok v))
theorem Hd (s:ByteArray) (hs:s.size<=1048576):Cl Tryz.prog 229 [vs s] [] fun r _=>IX s r:=
 Cl.ofNew ae [.string s] fun w hg=>by
  obtain⟨⟨ev,h4,h4'⟩,⟨ev',h5,h5'⟩⟩:=Er hg
  rcases ha:Lib.atoiAll s.data.toList with v|_|_
  ·skip
   refine (Any.strconv_Atoi_ok Tryz.laysC172 s aa v ha w).mono ?_
   rintro e w' ⟨rfl,hw⟩
   refine⟨_,.tu [([.v (.int .i64 v)],true),([.v .nilIface],true)],rfl,⟨v,_,rfl,.inl ⟨rfl,ha⟩⟩,rfl,fun β=>⟨_,rfl,⟨⟨rfl,trivial⟩,trivial⟩,⟨⟨rfl,trivial⟩,trivial⟩,trivial⟩,?_⟩
   rcases hw with rfl|⟨t,rfl⟩
   ·exact Below.refl _ _
   ·exact Lib.bytesWorld_below _ _ _
  ·refine (Any.strconv_Atoi_syntax Tryz.laysC172 s aa ha ev w h4 h4').mono ?_
   rintro e w' ⟨N,rfl,_,_,hb⟩
   exact⟨_,.tu [([.v (.int .i64 _)],true),([.v (.iface _ _)],true)],rfl,⟨_,_,rfl,.inr ⟨⟨_,_,rfl⟩,fun v h=>by rw[ha] at h;cases h⟩⟩,rfl,fun β=>⟨_,rfl,⟨⟨rfl,trivial⟩,trivial⟩,⟨⟨rfl,trivial⟩,trivial⟩,trivial⟩,hb⟩
  ·refine (Any.strconv_Atoi_range Tryz.laysC172 s aa ha ev' w h5 h5').mono ?_
   rintro e w' ⟨N,rfl,_,_,hb⟩
   exact⟨_,.tu [([.v (.int .i64 _)],true),([.v (.iface _ _)],true)],rfl,⟨_,_,rfl,.inr ⟨⟨_,_,rfl⟩,fun v h=>by rw[ha] at h;cases h⟩⟩,rfl,fun β=>⟨_,rfl,⟨⟨rfl,trivial⟩,trivial⟩,⟨⟨rfl,trivial⟩,trivial⟩,trivial⟩,hb⟩
def jk (s:ByteArray):Bool:=(io s.data.toList).isSome
def jB (s:ByteArray):Int:=((io s.data.toList).getD 0:Nat)
def pb (s:ByteArray):S:=.tu [([.v (.int .i64 (jB s))],true),([.v (.bool (jk s))],true)]
theorem tC (s:ByteArray) (hs:s.size<=1048576):Cl Tryz.prog 186 [vs s] [] fun r _=>r=pb s:=by
 refine ai ac false Tryz.func186 rfl ae ?_
 simp only[Tryz.f186,tt,seval]
 refine iZ (Hd s hs) ?_ ?_ ?_
 ·decide
 ·simp only[tt,seval]
 rintro r ⟨n,e,rfl,hh⟩
 simp only[tt,seval]
 rcases hh with⟨rfl,ha⟩|⟨⟨tt',pp,rfl⟩,hne⟩
 ·rw[Ep]
  simp only[tt,seval]
  have hb:=Lib.atoiAll_bounds ha
  by_cases hn:n<0
  ·simp only[tt,seval,ax hn]
   have hno:io s.data.toList=none:=by
    cases hc:io s.data.toList with
    |none=>rfl
    |some m=>have:=p8 hc;rw[ha] at this;injection this;omega
   exact⟨_,_,by rw[pb,jB,jk,hno];rfl,ao rfl⟩
  ·simp only[tt,seval,aB hn]
   refine cZ (mq n aa aa) ?_ ?_<;>simp only[tt,seval]
   refine ab (fun he=>?_) (fun he=>?_)
   ·have he':¬df n=s:=by simpa only[Bool.not_eq_true',decide_eq_false_iff_not] using he
    have hno:io s.data.toList=none:=by
     cases hc:io s.data.toList with
     |none=>rfl
     |some m=>
      have h1:=p8 hc
      obtain⟨_,h2⟩:=dt.1 hc
      rw[ha] at h1
      injection h1 with h1
      refine absurd (mZ ?_) he'
      rw[df,h1,ly,h2]
    exact⟨_,_,by rw[pb,jB,jk,hno];rfl,ao rfl⟩
   ·have he':df n=s:=by simpa only[Bool.not_eq_false',decide_eq_true_eq] using he
    have hc:=AC ha aa (by rw[<-he'];rfl)
    exact⟨_,_,by rw[pb,jB,jk,hc];simp only[Option.getD_some,Option.isSome_some,Int.toNat_of_nonneg (show 0<=n by omega)],ao rfl⟩
 ·rw[Hc]
  simp only[tt,seval]
  have hno:io s.data.toList=none:=by
   cases hc:io s.data.toList with
   |none=>rfl
   |some m=>exact absurd (p8 hc) (hne _)
  exact⟨_,_,by rw[pb,jB,jk,hno];rfl,ao rfl⟩
theorem BT (s:ByteArray) (hs:s.size<=1048576):Cl Tryz.prog 191 [vs s] [] fun r _=>r=pb s:=by
 obtain⟨l,hl⟩:∃l,l=s.data.toList:=⟨_,rfl⟩
 have hll:l.length=s.size:=by rw[hl];exact aK s
 refine ai ac false Tryz.func191 rfl ae ?_
 simp only[Tryz.f191,tt,seval]
 refine fun _=>?_
 have none_of (h:io l=none):pb s = .tu [([.v (.int .i64 0)],true),([.v (.bool false)],true)]:=by rw[pb,jB,jk,<-hl,h];rfl
 have fin0 (h:io l=none) {L:Ob} {p:Po}:∃r objs,r=pb s/\EndOk L p (.tu [([.v (.int .i64 0)],true),([.v (.bool false)],true)]) r 0 objs:=⟨_,[],rfl,by rw[none_of h];exact ao rfl⟩
 by_cases hs1:(s.size:Int)<1
 ·simp only[tt,seval,ax hs1]
  exact fin0 (by
   cases hc:io l with
   |none=>rfl
   |some m=>
    obtain⟨_,h2⟩:=dt.1 hc
    obtain⟨b,r,h3,_⟩:=lx m
    have:l.length=0:=by omega
    rw[<-h2,h3] at this;simp at this)
 ·simp only[tt,seval,aB hs1]
  refine fun _=>ab (fun hs2=>?_) (fun hs2=>?_)
  ·exact fin0 (by
    cases hc:io l with
    |none=>rfl
    |some m=>
     obtain⟨h1,h2⟩:=dt.1 hc
     have:=fc m 18 aa
     rw[h2] at this;omega)
  ·skip
   refine dLoop.intro (fun f' L p=>∃i n:Nat,f' 5=vi i/\f' 4=vi n/\i<=l.length/\Lib.decFrom 0 (l.take i)=some n/\n<=9223372036854775807/\L=[]/\p=none) (fun f' _ _=>(s.size-fH (f' 5)).toNat) [] none ⟨ap _,au _,?_⟩ ?_
   ·simp only[tt,seval]
    exact⟨0,0,rfl,rfl,aa,rfl,aa⟩
   ·rintro g L p ⟨i,n,h5,h4,hi,hd,hn,rfl,rfl⟩
    simp only[tt,seval] at h5 h4
    simp only[tt,seval,h5,h4,Int.ofNat_lt]
    refine fun _=>ab (fun hlt=>?_) (fun hge=>?_)
    ·have hil:i<l.length:=by omega
     have hget:l[i]?=some l[i]:=aC hil
     rw[gL hl hil]
     simp only[tt,seval]
     have dn (h:¬(48<=l[i].toNat/\l[i].toNat<=57)):io l=none:=by
      unfold io
      rw[uz hget (by unfold Lib.digitVal;rw[if_neg h]) 0]
     by_cases hb:(l[i].toNat:Int)<48
     ·simp only[tt,seval,ax hb]
      exact fin0 (dn aa)
     ·simp only[tt,seval,aB hb,h5]
      rw[gL hl hil]
      simp only[tt,seval,h5]
      refine ab (fun hb2=>?_) (fun hb2=>?_)
      ·exact fin0 (dn aa)
      ·try simp only[tt,seval,h5,h4]
       rw[gL hl hil]
       simp only[tt,seval,h5,h4]
       have hbb:48<=l[i].toNat/\l[i].toNat<=57:=by omega
       obtain⟨d,hd48⟩:∃d:Nat,l[i].toNat=48+d:=⟨l[i].toNat-48,aa⟩
       have hd9:d<=9:=by omega
       have hdv:Lib.digitVal l[i]=some d:=by unfold Lib.digitVal;rw[if_pos hbb,hd48];congr 1;omega
       have hsn:Lib.decFrom 0 (l.take (i+1))=some (n*10+d):=by rw[List.take_succ_eq_append_getElem hil,im,hd,hdv]
       rw[hd48,aE (n:=((48+d:Nat):Int)) aa aa,aE (n:=((48+d:Nat):Int)-48) aa aa,aE (n:=9223372036854775807-(((48+d:Nat):Int)-48)) aa aa]
       have ht:(9223372036854775807-(((48+d:Nat):Int)-48)).tdiv 10=(((9223372036854775807-d) / 10:Nat):Int):=by
        rw[Int.tdiv_eq_ediv_of_nonneg aa];omega
       rw[ht,aE (n:=(((9223372036854775807-d) / 10:Nat):Int)) aa aa]
       refine ab (fun ho=>?_) (fun ho=>?_)
       ·exact fin0 (by
         cases hc:io l with
         |none=>rfl
         |some m=>
          obtain⟨h1,h2⟩:=dt.1 hc
          have hm:=iN m
          rw[h2] at hm
          have hsp:∀(a b:List UInt8) (acc:Nat),Lib.decFrom acc (a++b)=(Lib.decFrom acc a).bind fun x=>Lib.decFrom x b:=by
           intro a
           induction a with
           |nil=>intro b acc;rfl
           |cons c r ih=>
            intro b acc
            simp only[List.cons_append,Lib.decFrom]
            cases Lib.digitVal c with
            |none=>rfl
            |some d=>exact ih b _
          have:=hsp (l.take (i+1)) (l.drop (i+1)) 0
          rw[List.take_append_drop,hm,hsn] at this
          have:=nc _ _ _ this.symm
          omega)
       ·rw[aE (n:=10*(n:Int)) aa aa,aE (n:=10*(n:Int)+(((48+d:Nat):Int)-48)) aa aa,aE (n:=(i:Int)+1) aa aa]
        exact⟨[],none,ap _,au _,⟨i+1,n*10+d,by simp,kX aa,aa,hsn,aa,rfl,rfl⟩,az⟩
    ·have:i=l.length:=by omega
     subst this
     rw[List.take_length] at hd
     refine cZ (qZ n aa aa) ?_ ?_<;>simp only[tt,seval,h4]
     refine ab (fun he=>?_) (fun he=>?_)
     ·have he':¬df n=s:=by simpa only[Bool.not_eq_true',decide_eq_false_iff_not] using he
      exact fin0 (by
       unfold io
       rw[hd]
       refine if_neg fun hc=>he' (mZ ?_)
       rw[df,ly,hc.2,hl])
     ·have he':df n=s:=by simpa only[Bool.not_eq_false',decide_eq_true_eq] using he
      have hc:io l=some n:=dt.2 ⟨aa,by rw[<-ly,hl,<-he'];rfl⟩
      exact⟨_,_,by rw[pb,jB,jk,<-hl,hc];rfl,ao rfl⟩
end Go.Proofs.YtdmomaomffhidaaGreatDoor
set_option maxRecDepth 8000
namespace Go.Proofs.YtdmomaomffhidaaGreatDoor
open Go Go.Dv
open Go.Vc (D dm dq cV bq)
def aR (t:Tok):Bool:=if t.kind=1 then (decide (¬key t.text=0)&&decide (d4 t.text=t.text)) else if t.kind=2 then decide (1<=t.text.size/\t.text.size<=20) else if t.kind=3 then jk t.text else if t.kind=4 then decide (t.text.size<=40) else if t.kind=5 then dD t.text else false
theorem mr (t:Tok) (hs:t.text.size<=1048576):Cl Tryz.prog 111 [.ag (aw t.row)] [] fun r _=>r=vb (aR t):=by
 rw[Tok.row]
 refine ai ac false Tryz.func111 rfl ae ?_
 simp only[Tryz.f111,tt,seval]
 refine ab (fun h1=>?_) (fun h1=>?_)
 ·skip
  refine dDrawn.intro [] (dW [0,2,5,6,8,10,12,16,18,15,20,22,24]) ae ?_
  simp only[tt,seval]
  refine cZ (zk t.text hs) ?_ ?_<;>simp only[tt,seval]
  have hk:=xU t.text
  have hgt:decide ((0:Int)<key t.text)=decide (¬key t.text=0):=by rw[decide_eq_decide];omega
  by_cases hz:key t.text=0
  ·simp only[tt,seval,hgt,aB (not_not_intro hz)]
   exact⟨_,_,aT (by rw[aR,if_pos h1,aB (not_not_intro hz)];rfl),ao rfl⟩
  ·simp only[tt,seval,hgt,ax hz]
   refine cZ (BM t.text hs) ?_ ?_<;>simp only[tt,seval]
   exact⟨_,_,aT (by rw[aR,if_pos h1,ax hz];rfl),ao rfl⟩
 ·try simp only[tt,seval]
  refine ab (fun h2=>?_) (fun h2=>?_)
  ·skip
   refine cZ (jK t.text) ?_ ?_<;>simp only[tt,seval]
   exact⟨_,_,aT (by rw[aR,if_neg h1,if_pos h2]),ao rfl⟩
  ·try simp only[tt,seval]
   refine ab (fun h3=>?_) (fun h3=>?_)
   ·skip
    refine cZ (BT t.text hs) ?_ ?_<;>simp only[tt,seval,pb]
    exact⟨_,_,aT (by rw[aR,if_neg h1,if_neg h2,if_pos h3]),ao rfl⟩
   ·try simp only[tt,seval]
    refine ab (fun h4=>?_) (fun h4=>?_)
    ·try simp only[tt,seval]
     refine fun _=>?_
     exact⟨_,_,aT (by rw[aR,if_neg h1,if_neg h2,if_neg h3,if_pos h4];simp only[decide_eq_decide];omega),ao rfl⟩
    ·try simp only[tt,seval]
     refine ab (fun h5=>?_) (fun h5=>?_)
     ·skip
      refine cZ (BR t.text) ?_ ?_<;>simp only[tt,seval]
      exact⟨_,_,aT (by rw[aR,if_neg h1,if_neg h2,if_neg h3,if_neg h4,if_pos h5]),ao rfl⟩
     ·exact⟨_,_,aT (by rw[aR,if_neg h1,if_neg h2,if_neg h3,if_neg h4,if_neg h5]),ao rfl⟩
theorem dw (t:Tok) (hs:t.text.size<=1048576):Cl Tryz.prog 199 [.ag (aw t.row)] [] fun r _=>r=vb (aR t):=by
 rw[Tok.row]
 refine ai ac false Tryz.func199 rfl ae ?_
 simp only[Tryz.f199,tt,seval]
 refine ab (fun h1=>?_) (fun h1=>?_)
 ·skip
  refine dDrawn.intro [] (dW [0,2,5,6,8,10,12,16,18,15,20,22,24]) ae ?_
  simp only[tt,seval]
  refine cZ (qU t.text hs) ?_ ?_<;>simp only[tt,seval]
  have hk:=xU t.text
  have hgt:True:=trivial
  by_cases hz:key t.text=0
  ·simp only[tt,seval,ax hz]
   exact⟨_,_,aT (by rw[aR,if_pos h1,aB (not_not_intro hz)];rfl),ao rfl⟩
  ·simp only[tt,seval,aB hz]
   refine cZ (qC t.text hs) ?_ ?_<;>simp only[tt,seval]
   exact⟨_,_,aT (by rw[aR,if_pos h1,ax hz];rfl),ao rfl⟩
 ·try simp only[tt,seval]
  refine ab (fun h2=>?_) (fun h2=>?_)
  ·skip
   refine cZ (jL t.text) ?_ ?_<;>simp only[tt,seval]
   exact⟨_,_,aT (by rw[aR,if_neg h1,if_pos h2]),ao rfl⟩
  ·try simp only[tt,seval]
   refine ab (fun h3=>?_) (fun h3=>?_)
   ·skip
    refine cZ (tC t.text hs) ?_ ?_<;>simp only[tt,seval,pb]
    exact⟨_,_,aT (by rw[aR,if_neg h1,if_neg h2,if_pos h3]),ao rfl⟩
   ·try simp only[tt,seval]
    refine ab (fun h4=>?_) (fun h4=>?_)
    ·try simp only[tt,seval]
     refine fun _=>?_
     exact⟨_,_,aT (by rw[aR,if_neg h1,if_neg h2,if_neg h3,if_pos h4];simp only[decide_eq_decide];omega),ao rfl⟩
    ·try simp only[tt,seval]
     refine ab (fun h5=>?_) (fun h5=>?_)
     ·skip
      refine cZ (AE t.text) ?_ ?_<;>simp only[tt,seval]
      exact⟨_,_,aT (by rw[aR,if_neg h1,if_neg h2,if_neg h3,if_neg h4,if_pos h5]),ao rfl⟩
     ·exact⟨_,_,aT (by rw[aR,if_neg h1,if_neg h2,if_neg h3,if_neg h4,if_neg h5]),ao rfl⟩
theorem BU {s:ByteArray} (h:dD s=true):0<s.size:=by
 simp only[dD,signs,List.any_cons,List.any_nil,Bool.or_false,Bool.or_eq_true,decide_eq_true_eq] at h
 rcases h with h|h|h|h|h|h|h|h|h|h|h|h|h|h|h|h<;>(rw[h];decide)
def eZ (t:Tok):ByteArray:=if aR t=false then ⟨#[]⟩ else if t.kind=2 then mO t.text else if t.kind=4 then kz 39 t.text else t.text
def cQ (t:Tok):Bool:=decide (t.kind=1)||(decide (t.kind=3)||(decide (t.kind=2)&&gg t.text))
def eI (t:Tok):Bool:=decide (t.kind=2) && !gg t.text
def Et (a b:Tok):Bool:=
 if ¬a.kind=5 then false else if ¬b.kind=5 then false else
 if a.text=⟨#[45]⟩ then decide (b.text=⟨#[45]⟩) else if a.text=⟨#[47]⟩ then decide (b.text=⟨#[42]⟩) else
 if a.text=⟨#[60]⟩ then (decide (b.text.data.toList.headD 0=61)||decide (b.text.data.toList.headD 0=62)) else if a.text=⟨#[62]⟩ then decide (b.text.data.toList.headD 0=61) else false
def r6 (a b:Tok):Bool:=if ((cQ a&&cQ b)||(eI a&&eI b)||(decide (a.kind=4)&&decide (b.kind=4)))=true then true else Et a b
def pc (a b:Tok):Bool:=if (!(aR a&&aR b))=true then false else r6 a b
theorem lB (t:Tok) (hs:t.text.size<=1048576):Cl Tryz.prog 113 [.ag (aw t.row)] [] fun r _=>r=vs (eZ t):=by
 rw[Tok.row]
 refine ai ac false Tryz.func113 rfl ae ?_
 simp only[Tryz.f113,tt,seval]
 refine cZ (mr t hs) ?_ ?_<;>simp only[tt,seval,Tok.row]
 refine ab (fun h=>?_) (fun h=>?_)
 ·have h:aR t=false:=by simpa only[Bool.not_eq_true'] using h
  exact⟨_,_,mW (by rw[eZ,if_pos h]),ao rfl⟩
 ·have h:¬aR t=false:=by simpa only[Bool.not_eq_false',Bool.not_eq_false] using h
  refine ab (fun h2=>?_) (fun h2=>?_)
  ·skip
   refine cZ (xV t.text hs) ?_ ?_<;>simp only[tt,seval]
   exact⟨_,_,mW (by rw[eZ,if_neg h,if_pos h2]),ao rfl⟩
  ·try simp only[tt,seval]
   refine ab (fun h4=>?_) (fun h4=>?_)
   ·skip
    refine cZ (vI t.text hs) ?_ ?_<;>simp only[tt,seval]
    exact⟨_,_,mW (by rw[eZ,if_neg h,if_neg h2,if_pos h4]),ao rfl⟩
   ·exact⟨_,_,mW (by rw[eZ,if_neg h,if_neg h2,if_neg h4]),ao rfl⟩
theorem r7 (t:Tok) (hs:t.text.size<=1048576):Cl Tryz.prog 193 [.ag (aw t.row)] [] fun r _=>r=vb (cQ t):=by
 rw[Tok.row]
 refine ai ac false Tryz.func193 rfl ae ?_
 simp only[Tryz.f193,tt,seval]
 by_cases h1:t.kind=1
 ·simp only[tt,seval,h1]
  exact⟨_,_,aT (by rw[cQ,ax h1];rfl),ao rfl⟩
 ·simp only[tt,seval,aB h1]
  by_cases h3:t.kind=3
  ·simp only[tt,seval,h3]
   exact⟨_,_,aT (by rw[cQ,ax h3];simp),ao rfl⟩
  ·simp only[tt,seval,aB h3]
   by_cases h2:t.kind=2
   ·simp only[tt,seval,ax h2]
    refine cZ (lq t.text hs) ?_ ?_<;>simp only[tt,seval]
    exact⟨_,_,aT (by rw[cQ,aB h1,aB h3,ax h2];rfl),ao rfl⟩
   ·simp only[tt,seval,aB h2]
    exact⟨_,_,aT (by rw[cQ,aB h1,aB h3,aB h2];rfl),ao rfl⟩
theorem iR (t:Tok) (hs:t.text.size<=1048576):Cl Tryz.prog 194 [.ag (aw t.row)] [] fun r _=>r=vb (eI t):=by
 rw[Tok.row]
 refine ai ac false Tryz.func194 rfl ae ?_
 simp only[Tryz.f194,tt,seval]
 by_cases h2:t.kind=2
 ·simp only[tt,seval,ax h2]
  refine cZ (lq t.text hs) ?_ ?_<;>simp only[tt,seval]
  exact⟨_,_,aT (by rw[eI,ax h2];rfl),ao rfl⟩
 ·simp only[tt,seval,aB h2]
  exact⟨_,_,aT (by rw[eI,aB h2];rfl),ao rfl⟩
set_option maxHeartbeats 2000000 in
theorem xX (a b:Tok) (ha:a.text.size<=1048576) (hb:b.text.size<=1048576):Cl Tryz.prog 112 [.ag (aw a.row),.ag (aw b.row)] [] fun r _=>r=vb (pc a b):=by
 obtain⟨l,hl⟩:∃l,l=b.text.data.toList:=⟨_,rfl⟩
 have hll:l.length=b.text.size:=by rw[hl];exact aK b.text
 rw[Tok.row,Tok.row]
 refine ai ac false Tryz.func112 rfl ae ?_
 simp only[Tryz.f112,tt,seval]
 refine cZ (mr a ha) ?_ ?_<;>simp only[tt,seval,Tok.row]
 cases hoa:aR a with
 |false=>
  simp only[tt,seval]
  exact⟨_,_,aT (by simp only[pc,hoa,Bool.false_and,Bool.not_false,reduceIte]),ao rfl⟩
 |true=>
 simp only[tt,seval]
 refine cZ (mr b hb) ?_ ?_<;>simp only[tt,seval,Tok.row]
 cases hob:aR b with
 |false=>
  simp only[tt,seval]
  exact⟨_,_,aT (by simp only[pc,hoa,hob,Bool.and_false,Bool.not_false,reduceIte]),ao rfl⟩
 |true=>
 simp only[tt,seval]
 have g0:pc a b=r6 a b:=by simp only[pc,hoa,hob,Bool.and_self,Bool.not_true,Bool.false_eq_true,reduceIte]
 refine cZ (r7 a ha) ?_ ?_<;>simp only[tt,seval,Tok.row]
 have hw:(cQ a&&cQ b)=true->r6 a b=true:=fun h=>by simp only[r6,h,Bool.true_or,reduceIte]
 have hq:(eI a&&eI b)=true->r6 a b=true:=fun h=>by simp only[r6,h,Bool.true_or,Bool.or_true,reduceIte]
 have ht:(decide (a.kind=4)&&decide (b.kind=4))=true->r6 a b=true:=fun h=>by simp only[r6,h,Bool.or_true,reduceIte]
 have he:(cQ a&&cQ b)=false->(eI a&&eI b)=false->(decide (a.kind=4)&&decide (b.kind=4))=false->r6 a b=Et a b:=fun h1 h2 h3=>by simp only[r6,h1,h2,h3,Bool.or_self,Bool.false_eq_true,reduceIte]
 have hpos (h5:b.kind=5):0<l.length:=by
  have:dD b.text=true:=by rw[aR,if_neg aa,if_neg aa,if_neg aa,if_neg aa,if_pos h5] at hob;exact hob
  have:=BU this
  omega
 have heq (hl0:0<l.length) (n:UInt8):decide (b.text.data.toList.headD 0=n)=decide ((l[0].toNat:Int)=n.toNat):=by
  rw[<-hl,decide_eq_decide]
  have:l.headD 0=l[0]:=by cases l with|nil=>exact absurd hl0 (Nat.lt_irrefl _)|cons x r=>rfl
  rw[this,<-UInt8.toNat_inj];omega
 by_cases hww:(cQ a&&cQ b)=true
 ·have hwa:cQ a=true:=by rw[Bool.and_eq_true] at hww;exact hww.1
  have hwb:cQ b=true:=by rw[Bool.and_eq_true] at hww;exact hww.2
  simp only[tt,seval,hwa]
  refine cZ (r7 b hb) ?_ ?_<;>simp only[tt,seval,Tok.row]
  simp only[tt,seval,hwb]
  exact⟨_,_,aT (by rw[g0,hw hww]),ao rfl⟩
 have hww':(cQ a&&cQ b)=false:=by simpa only[Bool.not_eq_true] using hww
 have hcase:cQ a=false∨(cQ a=true/\cQ b=false):=by cases h:cQ a<;>cases h':cQ b<;>simp_all
 rcases hcase with hwa|⟨hwa,hwb⟩
 case' inl=>simp only[tt,seval,hwa]
 case' inr=>
  simp only[tt,seval,hwa]
  refine cZ (r7 b hb) ?_ ?_<;>simp only[tt,seval,Tok.row]
  simp only[tt,seval,hwb]
 all_goals
  by_cases HTT:(decide (a.kind=4)&&decide (b.kind=4))=true
  ·have hta:a.kind=4:=by rw[Bool.and_eq_true] at HTT;exact of_decide_eq_true HTT.1
   have htb:b.kind=4:=by rw[Bool.and_eq_true] at HTT;exact of_decide_eq_true HTT.2
   simp only[tt,seval,ax hta]
   simp only[tt,seval,htb]
   exact⟨_,_,aT (by rw[g0,ht HTT]),ao rfl⟩
  have HT:(decide (a.kind=4)&&decide (b.kind=4))=false:=by simpa only[Bool.not_eq_true] using HTT
  have hcase:¬a.kind=4∨(a.kind=4 /\ ¬b.kind=4):=by cases h:decide (a.kind=4)<;>cases h':decide (b.kind=4)<;>simp_all
  rcases hcase with hta|⟨hta,htb⟩
  case' inl=>simp only[tt,seval,aB hta]
  case' inr=>
   simp only[tt,seval,ax hta]
   simp only[tt,seval,htb]
  all_goals
   by_cases HQQ:(eI a&&eI b)=true
   ·have hqa:eI a=true:=by rw[Bool.and_eq_true] at HQQ;exact HQQ.1
    have hqb:eI b=true:=by rw[Bool.and_eq_true] at HQQ;exact HQQ.2
    refine cZ (iR a ha) ?_ ?_<;>simp only[tt,seval,Tok.row]
    simp only[tt,seval,hqa]
    refine cZ (iR b hb) ?_ ?_<;>simp only[tt,seval,Tok.row]
    simp only[tt,seval,hqb]
    exact⟨_,_,aT (by rw[g0,hq HQQ]),ao rfl⟩
   have HQ:(eI a&&eI b)=false:=by simpa only[Bool.not_eq_true] using HQQ
   have hcase:eI a=false∨(eI a=true/\eI b=false):=by cases h:eI a<;>cases h':eI b<;>simp_all
   rcases hcase with hqa|⟨hqa,hqb⟩
   case' inl=>
    refine cZ (iR a ha) ?_ ?_<;>simp only[tt,seval,Tok.row]
    simp only[tt,seval,hqa]
   case' inr=>
    refine cZ (iR a ha) ?_ ?_<;>simp only[tt,seval,Tok.row]
    simp only[tt,seval,hqa]
    refine cZ (iR b hb) ?_ ?_<;>simp only[tt,seval,Tok.row]
    simp only[tt,seval,hqb]
   all_goals
    rw[g0,he hww' HQ HT,Et]
    by_cases h5a:a.kind=5
    ·rw[if_neg (not_not_intro h5a)]
     simp only[tt,seval,ax h5a]
     refine ab (fun h5b=>?_) (fun h5b=>?_)
     ·have h5b:¬b.kind=5:=by simpa only[Bool.not_eq_true',decide_eq_false_iff_not] using h5b
      exact⟨_,_,aT (by rw[if_pos h5b]),ao rfl⟩
     ·have h5b:b.kind=5:=by simpa only[Bool.not_eq_false',decide_eq_true_eq] using h5b
      rw[if_neg (not_not_intro h5b)]
      have hl0:=hpos h5b
      refine ab (fun t1=>?_) (fun t1=>?_)
      ·exact⟨_,_,aT (by rw[if_pos t1]),ao rfl⟩
      ·try simp only[tt,seval]
       refine ab (fun t2=>?_) (fun t2=>?_)
       ·exact⟨_,_,aT (by rw[if_neg t1,if_pos t2]),ao rfl⟩
       ·try simp only[tt,seval]
        refine ab (fun t3=>?_) (fun t3=>?_)
        ·try simp only[tt,seval]
         rw[uu hl hl0,if_neg t1,if_neg t2,if_pos t3,heq hl0 61,heq hl0 62]
         simp only[tt,seval]
         by_cases hx:(l[0].toNat:Int)=61
         ·simp only[tt,seval,ax hx]
          exact⟨_,_,aT rfl,ao rfl⟩
         ·simp only[tt,seval,aB hx]
          rw[uu hl hl0]
          simp only[tt,seval]
          exact⟨_,_,aT rfl,ao rfl⟩
        ·try simp only[tt,seval]
         refine ab (fun t4=>?_) (fun t4=>?_)
         ·try simp only[tt,seval]
          rw[uu hl hl0,if_neg t1,if_neg t2,if_neg t3,if_pos t4,heq hl0 61]
          simp only[tt,seval]
          exact⟨_,_,aT rfl,ao rfl⟩
         ·exact⟨_,_,aT (by rw[if_neg t1,if_neg t2,if_neg t3,if_neg t4]),ao rfl⟩
    ·simp only[tt,seval,aB h5a]
     exact⟨_,_,aT (by rw[if_pos h5a]),ao rfl⟩
def jn (l:List Tok) (i:Nat):List UInt8:=if h:i<l.length then (if 0<i/\pc (l[i-1]'(by omega)) l[i]=true then [32] else [])++(eZ l[i]).data.toList else []
def fZ (l:List Tok) (k:Nat):List UInt8:=(List.range k).flatMap (jn l)
theorem fh (l:List Tok) (k:Nat):fZ l (k+1)=fZ l k++jn l k:=by
 unfold fZ
 rw[List.range_succ,List.flatMap_append];simp
theorem xY (l:List Tok) {k m:Nat} (h:k<=m):(fZ l k).length<=(fZ l m).length:=by
 induction m with
 |zero=>rw[Nat.le_zero.1 h];exact Nat.le_refl _
 |succ m ih=>
  by_cases e:k=m+1
  ·subst e;exact Nat.le_refl _
  ·rw[fh,aD];exact Nat.le_trans (ih aa) (Nat.le_add_right _ _)
theorem Gt (l:List Tok) {i:Nat} (h:i<l.length):jn l i=(if 0<i/\pc (l[i-1]'(by omega)) l[i]=true then [32] else [])++(eZ l[i]).data.toList:=dif_pos h
def dT (l:List Tok):ByteArray:=if l.all aR=true then (if 2000<(fZ l l.length).length then ⟨#[]⟩ else ⟨(fZ l l.length).toArray⟩) else ⟨#[]⟩
theorem xZ {l:List Tok} {i:Nat} (h:i<l.length) (hb:aR l[i]=false):dT l=⟨#[]⟩:=by
 unfold dT
 refine if_neg fun ha=>?_
 have:=List.all_eq_true.1 ha _ (aM h)
 rw[hb] at this;cases this
theorem He {l:List Tok} (h:∀j (hj:j<l.length),aR l[j]=true):l.all aR=true:=List.all_eq_true.2 fun x hx=>by
 obtain⟨j,hj,rfl⟩:=List.mem_iff_getElem.1 hx
 exact h j hj
theorem AG:([.lit (.int .u8 32)]:List D)=aY [32]:=rfl
theorem BV (l:List Tok) (hT:∀t∈l,t.text.size<=1048576) (hb:(fZ l l.length).length<=50000000):Cl Tryz.prog 47 [.c (.sl l.length (l.flatMap Tok.row) none),vb false] [] fun r _=>r=vs (dT l):=by
 refine ai ac false Tryz.func47 rfl ae ?_
 simp only[Tryz.f47,tt,seval]
 refine dLoop.gh [.ren 7 46] ⟨ah,ah,?_⟩
 refine dLoop0.intro (fun f L p=>∃(i:Nat) (bs:List UInt8),f 6=vi i/\f 5 = .c (.s 46 bs.length)/\i<=l.length/\bs=fZ l i/\(∀j (hj:j<l.length),j<i->aR l[j]=true)/\L=[(46,.arr 5 bs.length (aY bs) none)]/\p=none) (fun f _ _=>(l.length-fH (f 6)).toNat) [(46,.arr 5 0 (aY []) none)] none ⟨ak rfl (ap _),au _,?_⟩ ?_
 ·simp only[tt,seval]
  exact⟨0,[],rfl,rfl,aa,rfl,fun j _ h=>absurd h (Nat.not_lt_zero _),rfl⟩
 ·rintro g L p ⟨i,bs,h6,h5,hi,hbs,hok,rfl,rfl⟩
  simp only[tt,seval] at h6 h5
  simp only[tt,seval,h6,h5,Int.ofNat_lt]
  refine fun _=>ab (fun hlt=>?_) (fun hge=>?_)
  ·have hsz:bs.length+(jn l i).length<=50000000:=by
    have:=xY l (show i+1<=l.length by omega)
    rw[fh,aD] at this
    rw[hbs];omega
   have hjn:=Gt l hlt
   have htx:=hT _ (aM hlt)
   refine⟨aa,aa,_,aI Tok.row_len (aC hlt),Tok.ne _ _,?_⟩
   simp only[seval,Tok.tk]
   refine cZ (mr l[i] htx) ?_ ?_<;>simp only[tt,seval,Tok.row]
   refine ab (fun hbad=>?_) (fun hgood=>?_)
   ·exact⟨_,_,mW (xZ hlt (by simpa only[Bool.not_eq_true'] using hbad)).symm,ao rfl⟩
   ·have hgood:aR l[i]=true:=by simpa only[Bool.not_eq_false'] using hgood
    have hok':∀j (hj:j<l.length),j<i+1->aR l[j]=true:=fun j hj hji=>by
     by_cases e:j=i
     ·subst e;exact hgood
     ·exact hok j hj aa
    refine dDrawn.intro [] (dW [0,2,4,6,8,10,12,14,16,18,20,22,24,26,29,30,32]) ae ?_
    simp only[tt,seval]
    simp only[tt,seval,h6]
    have nogap (hng:¬(0<i/\pc (l[i-1]'(by omega)) l[i]=true)):jn l i=(eZ l[i]).data.toList:=by rw[hjn,if_neg hng];rfl
    by_cases hi0:(0:Int)<i
    ·have hlt1:i-1<l.length:=by omega
     simp only[tt,seval,ax hi0,h6]
     rw[aE (n:=(i:Int)-1) aa aa,show (i:Int)-1=((i-1:Nat):Int) by omega]
     refine⟨aa,aa,_,aI Tok.row_len (aC hlt1),Tok.ne _ _,?_⟩
     simp only[tt,seval,Tok.tk]
     refine⟨aa,aa,_,aI Tok.row_len (aC hlt),Tok.ne _ _,?_⟩
     simp only[seval,Tok.tk]
     refine cZ (xX (l[i-1]'hlt1) l[i] (hT _ (aM hlt1)) htx) ?_ ?_<;>simp only[tt,seval,h6,h5,Tok.row]
     cases hgp:pc (l[i-1]'hlt1) l[i] with
     |true=>
      have hjn':jn l i=[32]++(eZ l[i]).data.toList:=by rw[hjn,if_pos ⟨aa,hgp⟩]
      have hsz':bs.length+1+(eZ l[i]).size<=50000000:=by rw[hjn',aD,aK] at hsz;simp only[List.length_singleton] at hsz;omega
      simp only[tt,seval]
      refine qA ?_
      rw[AG]
      refine⟨aa,aa,_,aI Tok.row_len (aC hlt),Tok.ne _ _,?_⟩
      simp only[seval,Tok.tk]
      refine cZ (lB l[i] htx) ?_ ?_<;>simp only[tt,seval,h6,Tok.row]
      refine⟨ae,by rw[iM,aK,Nat.mul_one],⟨by simp only[maxLen];omega,aa⟩,?_⟩
      have e:((bs++[32])++(eZ l[i]).data.toList).length=bs.length+1+(eZ l[i]).size:=by rw[aD,aK];simp
      rw[kB,kB,<-e,aE (n:=(i:Int)+1) aa aa]
      exact⟨_,none,ak rfl (ap _),au _,⟨i+1,_,rfl,rfl,aa,by rw[fh,hjn',hbs,aL],hok',rfl,rfl⟩,az⟩
     |false=>
      simp only[tt,seval]
      have hjn':=nogap (by rw[hgp];simp)
      have hsz':bs.length+(eZ l[i]).size<=50000000:=by rw[hjn',aK] at hsz;omega
      refine⟨aa,aa,_,aI Tok.row_len (aC hlt),Tok.ne _ _,?_⟩
      simp only[seval,Tok.tk]
      refine cZ (lB l[i] htx) ?_ ?_<;>simp only[tt,seval,h6,Tok.row]
      refine⟨ae,by rw[iM,aK,Nat.mul_one],⟨by simp only[maxLen];omega,aa⟩,?_⟩
      have e:(bs++(eZ l[i]).data.toList).length=bs.length+(eZ l[i]).size:=by rw[aD,aK]
      rw[kB,<-e,aE (n:=(i:Int)+1) aa aa]
      exact⟨_,none,ak rfl (ap _),au _,⟨i+1,_,rfl,rfl,aa,by rw[fh,hjn',hbs],hok',rfl,rfl⟩,az⟩
    ·simp only[tt,seval,aB hi0,h6,h5]
     have hjn':=nogap aa
     have hsz':bs.length+(eZ l[i]).size<=50000000:=by rw[hjn',aK] at hsz;omega
     refine⟨aa,aa,_,aI Tok.row_len (aC hlt),Tok.ne _ _,?_⟩
     simp only[seval,Tok.tk]
     refine cZ (lB l[i] htx) ?_ ?_<;>simp only[tt,seval,h6,Tok.row]
     refine⟨ae,by rw[iM,aK,Nat.mul_one],⟨by simp only[maxLen];omega,aa⟩,?_⟩
     have e:(bs++(eZ l[i]).data.toList).length=bs.length+(eZ l[i]).size:=by rw[aD,aK]
     rw[kB,<-e,aE (n:=(i:Int)+1) aa aa]
     exact⟨_,none,ak rfl (ap _),au _,⟨i+1,_,rfl,rfl,aa,by rw[fh,hjn',hbs],hok',rfl,rfl⟩,az⟩
  ·have hie:i=l.length:=by omega
   subst hie
   have hall:=He fun j hj=>hok j hj hj
   refine fun _=>ab (fun h2=>?_) (fun h2=>?_)
   ·exact⟨_,_,mW (by rw[dT,if_pos hall,if_pos (by rw[<-hbs];omega)]),ao rfl⟩
   ·try simp only[tt,seval]
    refine⟨ae,by simp only[maxLen];omega,bs,rfl,rfl,?_⟩
    simp only[tt,seval]
    exact⟨_,_,mW (by rw[dT,if_pos hall,if_neg (by rw[<-hbs];omega),hbs]),ao rfl⟩
theorem BW (l:List Tok) (hT:∀t∈l,t.text.size<=1048576) (hb:(fZ l l.length).length<=50000000):Cl Tryz.prog 14 [.c (.sl l.length (l.flatMap Tok.row) none)] [] fun r _=>r=vs (dT l):=by
 refine ai ac false Tryz.func14 rfl ae ?_
 simp only[Tryz.f14,tt,seval]
 refine cZ (BV l hT hb) ?_ ?_<;>simp only[tt,seval]
 exact⟨_,_,rfl,ao rfl⟩
def Expr.kind:Expr->Int | .mk k _ _ _ _ _ _ _=>k
def Expr.op:Expr->Int | .mk _ o _ _ _ _ _ _=>o
def Expr.kids:Expr->List Expr | .mk _ _ _ _ _ _ k _=>k
def Expr.sub:Expr->List Query | .mk _ _ _ _ _ _ _ s=>s
def bl (op:Int):Int:=if op=1 then 1 else if op=2 then 2 else if 3<=op/\op<=8 then 4 else if op=9 then 5 else if op=10∨op=11 then 6 else if 12<=op/\op<=14 then 7 else 0
def lv (k op:Int):Int:=if k=4 then bl op else if k=3 then (if op=15 then 3 else if op=16 then 8 else 0) else if 5<=k/\k<=8 then 4 else if k=1∨k=2∨k=9 then 9 else 0
def lC (e:Expr):Int:=lv e.kind e.op
theorem ms (k op:Int):0<=lv k op/\lv k op<=9:=by unfold lv bl;(repeat' split)<;>omega
def nd (kind op:Int) (k:Nat):Int:=if lv kind op=0∨lv kind op=9 then 0 else if kind=4 then (if lv kind op=4 then 5 else if k=0 then lv kind op else lv kind op+1) else if kind=3 then lv kind op else if kind=7/\0<k then 1 else 5
def l4 (kind op:Int) (kids:List Expr) (k:Nat):Bool:=decide (lC (kids.getD k (.mk 0 0 false ⟨0,0,⟨#[]⟩⟩ ⟨#[]⟩ ⟨#[]⟩ [] []))<nd kind op k)
theorem y3 (op:Int):Cl Tryz.prog 253 [vi op] [] fun r _=>r=vi (bl op):=by
 refine ai ac false Tryz.func253 rfl ae ?_
 simp only[Tryz.f253,tt,seval]
 all_goals repeat' first|(refine ab (fun h=>?_) (fun h=>?_)<;>try simp only[tt,seval])|(intro _;try simp only[tt,seval])
 all_goals first|contradiction|exact⟨_,_,kX (by subst_vars;rfl),ao rfl⟩|exact⟨_,_,kX (by unfold bl;(repeat' split)<;>omega),ao rfl⟩
theorem ng (e:Expr):Cl Tryz.prog 214 [.ag (aw e.row)] [] fun r _=>r=vi (lC e):=by
 obtain⟨kind,op,not,val,qual,name,kids,sub⟩:=e
 rw[Expr.row_mk,lC,Expr.kind,Expr.op]
 refine ai ac false Tryz.func214 rfl ae ?_
 simp only[Tryz.f214,tt,seval]
 refine ab (fun h4=>?_) (fun h4=>?_)
 ·skip
  refine cZ (y3 op) ?_ ?_<;>simp only[tt,seval]
  exact⟨_,_,kX (by rw[lv,if_pos h4]),ao rfl⟩
 all_goals repeat' first|(refine ab (fun h=>?_) (fun h=>?_)<;>try simp only[tt,seval])|(intro _;try simp only[tt,seval])
 all_goals exact⟨_,_,kX (by unfold lv;(repeat' split)<;>omega),ao rfl⟩
def JS:List Int:=[0,1,2,4,4,4,4,4,4,5,6,6,7,7,7]
theorem Eu:([.lit (.int .i64 0),.lit (.int .i64 1),.lit (.int .i64 2),.lit (.int .i64 4),.lit (.int .i64 4),.lit (.int .i64 4),.lit (.int .i64 4),.lit (.int .i64 4),.lit (.int .i64 4),.lit (.int .i64 5),.lit (.int .i64 6),.lit (.int .i64 6),.lit (.int .i64 7),.lit (.int .i64 7),.lit (.int .i64 7)]:List D)=JS.flatMap irow:=rfl
theorem vJ (n:Int):(irow n).length=1:=rfl
theorem Ev (v:Int) (r:List D):irow v++r≠[]:=fun h=>by cases h
theorem Ew:∀n:Fin 15,1<=n.1->JS[n.1]'n.2=bl n.1:=by decide
theorem pe (e:Expr):Cl Tryz.prog 216 [.ag (aw e.row)] [] fun r _=>r=vi (lC e):=by
 obtain⟨kind,op,not,val,qual,name,kids,sub⟩:=e
 rw[Expr.row_mk,lC,Expr.kind,Expr.op]
 refine ai ac false Tryz.func216 rfl ae ?_
 simp only[Tryz.f216,tt,seval]
 all_goals repeat' first|(refine ab (fun h=>?_) (fun h=>?_)<;>try simp only[tt,seval])|(intro _;try simp only[tt,seval])
 all_goals first|contradiction|exact⟨_,_,kX (by unfold lv;(repeat' split)<;>omega),ao rfl⟩|skip
 have h4:kind=4:=by assumption
 refine cZ (dv op 1 14) ?_ ?_<;>simp only[tt,seval]
 refine ab (fun hc=>?_) (fun hc=>?_)
 ·have hc:1<=op/\op<=14:=by simpa only[decide_eq_true_eq] using hc
  have hlt:op.toNat<JS.length:=by show _<15;omega
  refine⟨aa,aa,?_⟩
  rw[Eu,aI vJ (aC hlt)]
  simp only[tt,seval,irow]
  exact⟨_,_,kX (by rw[lv,if_pos h4];exact (Ew ⟨op.toNat,hlt⟩ (by show 1<=op.toNat;omega)).trans (congrArg bl (Int.toNat_of_nonneg (show 0<=op by omega)))),ao rfl⟩
 ·exact⟨_,_,kX (by rw[lv,if_pos h4];unfold bl;have:¬(1<=op/\op<=14):=(by simpa only[decide_eq_false_iff_not,decide_eq_true_eq] using hc);(repeat' split)<;>omega),ao rfl⟩
theorem Ex (kind op:Int) (not:Bool) (val:Val) (qual name:ByteArray) (kids:List Expr) (sub:List Query) (k:Nat) (hk:k<kids.length):Cl Tryz.prog 254 [.ag (aw (Expr.mk kind op not val qual name kids sub).row),vi k] [] fun r _=>r=vi (nd kind op k):=by
 rw[Expr.row_mk]
 refine ai ac false Tryz.func254 rfl ae ?_
 simp only[Tryz.f254,tt,seval]
 refine cZ (pe (Expr.mk kind op not val qual name kids sub)) ?_ ?_<;>simp only[tt,seval,Expr.row_mk,lC,Expr.kind,Expr.op]
 have hb:=ms kind op
 refine fun hlen=>?_
 rw[aE (n:=(kids.length:Int)-1) aa aa]
 refine cZ (dv k 0 (kids.length-1)) ?_ ?_<;>simp only[tt,seval]
 simp only[tt,seval,ax (show (0:Int)<=k/\(k:Int)<=(kids.length:Int)-1 by omega)]
 by_cases l0:lv kind op=0
 ·simp only[tt,seval,ax l0]
  exact⟨_,_,kX (by rw[nd,if_pos (Or.inl l0)]),ao rfl⟩
 simp only[tt,seval,aB l0]
 refine ab (fun l9=>?_) (fun l9=>?_)
 ·exact⟨_,_,kX (by rw[nd,if_pos (Or.inr l9)]),ao rfl⟩
 have e:nd kind op k=if kind=4 then (if lv kind op=4 then 5 else if k=0 then lv kind op else lv kind op+1) else if kind=3 then lv kind op else if kind=7/\0<k then 1 else 5:=by rw[nd,if_neg aa]
 rw[e,aE (n:=lv kind op+1) aa aa]
 all_goals repeat' first|(refine ab (fun h=>?_) (fun h=>?_)<;>try simp only[tt,seval])|(intro _;try simp only[tt,seval])
 all_goals first|contradiction|exact⟨_,_,kX (by (repeat' split)<;>omega),ao rfl⟩
theorem BX (kind op:Int) (not:Bool) (val:Val) (qual name:ByteArray) (kids:List Expr) (sub:List Query) (k:Nat) (hk:k<kids.length):Cl Tryz.prog 252 [.ag (aw (Expr.mk kind op not val qual name kids sub).row),vi k] [] fun r _=>r=vi (nd kind op k):=by
 rw[Expr.row_mk]
 refine ai ac false Tryz.func252 rfl ae ?_
 simp only[Tryz.f252,tt,seval]
 refine cZ (ng (Expr.mk kind op not val qual name kids sub)) ?_ ?_<;>simp only[tt,seval,Expr.row_mk,lC,Expr.kind,Expr.op]
 have hb:=ms kind op
 simp only[tt,seval,aB (show ¬(k:Int)<0 by omega)]
 refine fun hlen=>?_
 simp only[tt,seval,aB (show ¬(kids.length:Int)<=k by omega)]
 by_cases l0:lv kind op=0
 ·simp only[tt,seval,ax l0]
  exact⟨_,_,kX (by rw[nd,if_pos (Or.inl l0)]),ao rfl⟩
 simp only[tt,seval,aB l0]
 refine ab (fun l9=>?_) (fun l9=>?_)
 ·exact⟨_,_,kX (by rw[nd,if_pos (Or.inr l9)]),ao rfl⟩
 have e:nd kind op k=if kind=4 then (if lv kind op=4 then 5 else if k=0 then lv kind op else lv kind op+1) else if kind=3 then lv kind op else if kind=7/\0<k then 1 else 5:=by rw[nd,if_neg aa]
 rw[e]
 all_goals repeat' first|(refine ab (fun h=>?_) (fun h=>?_)<;>try simp only[tt,seval])|(intro _;try simp only[tt,seval])
 all_goals try rw[aE (n:=lv kind op+(if (1:Int)<k then 1 else (k:Int))) (by split<;>omega) (by split<;>omega)]
 all_goals first|contradiction|exact⟨_,_,kX (by (repeat' split)<;>omega),ao rfl⟩
theorem AH (kind op:Int) (not:Bool) (val:Val) (qual name:ByteArray) (kids:List Expr) (sub:List Query) (k:Nat) (hk:k<kids.length):Cl Tryz.prog 215 [.ag (aw (Expr.mk kind op not val qual name kids sub).row),vi k] [] fun r _=>r=vb (l4 kind op kids k):=by
 rw[Expr.row_mk]
 refine ai ac false Tryz.func215 rfl ae ?_
 simp only[Tryz.f215,tt,seval]
 refine dDrawn.intro [] (dW [0,2,4,6,8,11,12,14,16,18,20,22,26,28,25,31,32,34,36]) ae ?_
 simp only[tt,seval]
 refine fun hlen=>?_
 rw[aE (n:=(kids.length:Int)-1) aa aa]
 refine cZ (dv k 0 (kids.length-1)) ?_ ?_<;>simp only[tt,seval]
 simp only[tt,seval,ax (show (0:Int)<=k/\(k:Int)<=(kids.length:Int)-1 by omega)]
 refine⟨aa,aa,_,aI Expr.row_len (aC hk),Expr.ne _ _,?_⟩
 simp only[seval,Expr.tk,Expr.row_len]
 refine cZ (pe kids[k]) ?_ ?_<;>simp only[tt,seval]
 refine cZ (Ex kind op not val qual name kids sub k hk) ?_ ?_<;>simp only[tt,seval,Expr.row_mk]
 exact⟨_,_,aT (by rw[l4,List.getD_eq_getElem?_getD,aC hk];rfl),ao rfl⟩
theorem y4 (kind op:Int) (not:Bool) (val:Val) (qual name:ByteArray) (kids:List Expr) (sub:List Query) (k:Nat) (hk:k<kids.length):Cl Tryz.prog 213 [.ag (aw (Expr.mk kind op not val qual name kids sub).row),vi k] [] fun r _=>r=vb (l4 kind op kids k):=by
 rw[Expr.row_mk]
 refine ai ac false Tryz.func213 rfl ae ?_
 simp only[Tryz.f213,tt,seval]
 refine dDrawn.intro [] (dW [0,2,4,6,8,10,12,14,16,18,20,22,24,26,28,32,34,31,37,38,40,42]) ae ?_
 simp only[tt,seval]
 simp only[tt,seval,ax (show (0:Int)<=k by omega)]
 refine fun hlen=>?_
 simp only[tt,seval,ax (show (k:Int)<kids.length by omega)]
 refine⟨aa,aa,_,aI Expr.row_len (aC hk),Expr.ne _ _,?_⟩
 simp only[seval,Expr.tk,Expr.row_len]
 refine cZ (ng kids[k]) ?_ ?_<;>simp only[tt,seval]
 refine cZ (BX kind op not val qual name kids sub k hk) ?_ ?_<;>simp only[tt,seval,Expr.row_mk]
 exact⟨_,_,aT (by rw[l4,List.getD_eq_getElem?_getD,aC hk];rfl),ao rfl⟩
end Go.Proofs.YtdmomaomffhidaaGreatDoor
namespace Go.Cv
open Go Go.RowKit Go.Dv
open Go.Vc (j4 guardSlot cg vis aQ CellF RowF ValsF D inN eh callable aZ eS aN TS sizeTS elemS an dA aV j6 oU bZ b9 hJ eW d8 inN inN_iff Plan dsts dstsOps Cells oneCell_eq)
abbrev K1:=Rg->World->Prop
abbrev KX:=Exit->K1
def Rv:S->Value->Prop
 |.c (.v x),y=>y=x
 |.c .dead,_=>True
 |.c (.fn g [] []),y=>y = .func (.func g) #[] #[]
 |.ag _,_=>True
 |_,_=>False
structure CSim (n:Nat) (f:Rg) (a:Act):Prop where
 size:a.tmps.size=n
 defers:a.defers=[]
 slots:∀i,Rv (f i) (a.tmps.getD i undef)
def argsV:List S->Option (List Value)
 | []=>some []
 |.c (.v x)::r=>match argsV r with|some vs=>some (x::vs)|none=>none
 |_::_=>none
def Stp (K:K1) (f:Rg) (w:World):Prop:=K f w
theorem Stp.go {K:K1} {f:Rg} {w:World} (h:K f w):Stp K f w:=h
def IY (P:Program) (n:Nat) (d:Option Nat) (g:FuncId) (vs:List Value) (K:K1):K1:=fun f w=>
 callable P g=true/\∃R:Value->World->Prop,Calls P g vs.toArray w (fun e w'=>∃v,e = .returned v/\R v w')/\∀v w',R v w'->Stp K (put n f d (.c (.v v))) w'
def cLoad (P:Program) (n:Nat) (d:Option Nat) (t:TypeId) (ad:Addr) (K:K1):K1:=fun f w=>
 aN P t = .one/\∃v,w.cell? ad=some v/\K (put n f d (.c (.v v))) w
def cStore (P:Program) (n:Nat) (d:Option Nat) (t:TypeId) (ad:Addr) (v:Value) (K:K1):K1:=fun f w=>
 aN P t = .one/\Go.Vc.oneCell v=true/\(w.cell? ad).isSome=true/\w.frozen? ad=false/\∃w',w.setCell ad v=w'/\Stp K (put n f d (.c .dead)) w'
def cBox (P:Program) (n:Nat) (d:Option Nat) (t:TypeId) (vs:List Value) (K:K1):K1:=fun f w=>
 ∀b w',b=w.heap.size->w'=w.alloc (.cells vs.toArray t)->K (put n f d (.c (.v (.pointer (some ⟨b,0,none⟩))))) w'
def cLoadA (n:Nat) (d:Option Nat) (k b off:Nat) (K:K1):K1:=fun f w=>
 ∃vs:List Value,vs.length=k/\Cells w b off vs/\K (put n f d (.c (.v (.agg vs.toArray)))) w
def cAlloc (n:Nat) (d:Option Nat) (t:TypeId) (z:List Value) (K:K1):K1:=fun f w=>
 ∀b w',b=w.heap.size->w'=w.alloc (.cells z.toArray t)->K (put n f d (.c (.v (.pointer (some ⟨b,0,none⟩))))) w'
def Ey (n:Nat) (d:Option Nat) (b:Nat) (vs:List Value) (K:K1):K1:=fun f w=>
 (∃cur t fz,w.heap[b]?=some (.cells cur t fz)/\Lh cur.size fz/\vs.length=cur.size)/\(∀v∈vs,v.oneCell'=true)/\∃w',w.setRow b vs.toArray=w'/\Stp K (put n f d (.c .dead)) w'
def cOp (P:Program) (n:Nat) (o:Oper) (K:K1):K1:=fun f w=>
 match o.op with
 |.move x | .assign x=>K (put n f o.dst (ev f x)) w
 | .binOp op t x y _=>(match ev f x,ev f y with
  |.c (.v a),.c (.v b)=>bN P n o.dst (do eqGuard op t x y a b;binOp op t a b) (fun f' _ _=>K f' w) f [] none
  | _,_=>False)
 | .unOp op _ x=>(match ev f x with
  |.c (.v a)=>bN P n o.dst (Op.unary op a) (fun f' _ _=>K f' w) f [] none
  | _=>False)
 | .convert s t x=>(match ev f x with
  |.c (.v a)=>bN P n o.dst (convert s t a) (fun f' _ _=>K f' w) f [] none
  | _=>False)
 | .extract x i=>(match ev f x with
  |.c (.v (.tuple ys))=>∃v,ys[i]?=some v/\K (put n f o.dst (.c (.v v))) w
  | _=>False)
 | .indexAddr T x i=>(match ev f x,ev f i,elemS P T with
  |.c (.v (.slice (some ⟨b,off,none⟩) ln _)),.c (.v (.int _ k)),some (_,sz,_)=>0<=k/\k<ln/\K (put n f o.dst (.c (.v (.pointer (some ⟨b,off+k.toNat*sz,none⟩))))) w
  | _,_,_=>False)
 | .fieldAddr T x k=>(match an P T k,ev f x with
  |some q,.c (.v (.pointer (some ⟨b,off,none⟩)))=>K (put n f o.dst (.c (.v (.pointer (some ⟨b,off+q,none⟩))))) w
  | _,_=>False)
 | .nilCheck x=>(match ev f x with
  |.c (.v (.pointer (some ad)))=>K (put n f o.dst (.c (.v (.pointer (some ad))))) w
  | _=>False)
 | .load t x=>(match ev f x with
  |.c (.v (.pointer (some ⟨b,off,none⟩)))=>(match aN P t with | .agg k=>cLoadA n o.dst k b off K f w|_=>cLoad P n o.dst t ⟨b,off,none⟩ K f w)
  | _=>False)
 | .store t x y=>(match ev f x,ev f y with
  |.c (.v (.pointer (some ⟨b,0,none⟩))),.c (.v (.agg xs))=>aN P t = .agg xs.size/\Ey n o.dst b xs.toList K f w
  |.c (.v (.pointer (some ⟨b,off,none⟩))),.c (.v v)=>cStore P n o.dst t ⟨b,off,none⟩ v K f w
  | _,_=>False)
 |.alloc t=>(match aW P t with|some z=>cAlloc n o.dst t z K f w|none=>False)
 | .pick x a b=>(match ev f x with
  |.c (.v (.bool t))=>(t=true->K (put n f o.dst (ev f a)) w)/\(t=false->K (put n f o.dst (ev f b)) w)
  | _=>False)
 | .box t x=>(match ev f x with
  |.c (.v (.agg xs))=>cBox P n o.dst t xs.toList K f w
  | _=>False)
 | .call c=>(match c.callee with
  | .value g=>(match ev f g,argsV (c.args.toList.map (ev f)) with
   |.c (.fn g [] []),some vs=>IY P n o.dst g vs K f w
   | _,_=>False)
  | .builtin .len=>(match c.args.toList.map (ev f),c.argTypes.toList with
   | [.c (.v (.slice ad ln cap))],[T]=>Go.Vc.lenK P T=1/\K (put n f o.dst (.c (.v (.int .i64 ln)))) w
   | [.c (.v (.string s))],[T]=>Go.Vc.lenK P T=2/\K (put n f o.dst (.c (.v (.int .i64 s.size)))) w
   | _,_=>False)
  | _=>False)
 |_=>False
def lD (n:Nat) (ops:Array Oper) (o:Oper) (step:K1->K1) (K:K1):K1:=fun f w=>match o.guard with
 |none=>step K f w
 | some (j,want)=>(match guardSlot ops j with
  | some g=>(match f g with
   |.c (.v (.bool b))=>(b=want->step K f w)/\(b=(!want)->K (put n f o.dst (.c .dead)) w)
   | _=>False)
  | none=>False)
theorem cg0 (n:Nat) (ops:Array Oper) (T:K1->K1) (Q:K1) (f:Rg) (w:World) (dst:Option Nat) (op:Op) (ty:TypeId) (pos:String) (af:Array Edge):lD n ops ⟨dst,op,ty,pos,af,none⟩ T Q f w=T Q f w:=rfl
theorem cg1 (n:Nat) (ops:Array Oper) (T:K1->K1) (Q:K1) (f:Rg) (w:World) (dst:Option Nat) (op:Op) (ty:TypeId) (pos:String) (af:Array Edge) (j:Nat) (want:Bool):lD n ops ⟨dst,op,ty,pos,af,some (j,want)⟩ T Q f w =
 (match guardSlot ops j with
 | some g=>(match f g with
  |.c (.v (.bool b))=>(b=want->T Q f w)/\(b=(!want)->Q (put n f dst (.c .dead)) w)
  | _=>False)
 | none=>False):=rfl
def IZ (ws:List Nat) (body:KX->K1) (K:KX):K1:=fun f w=>
 ∃(I:Rg->World->Prop) (μ:Rg->World->Nat),I (cz ws f f) w /\
  ∀g w2,I (cz ws f g) w2->body (fun e f' w'=>match e with
   |.normal=>I (cz ws f f') w'/\μ (cz ws f f') w' < μ (cz ws f g) w2
   | e=>K e f' w') (cz ws f g) w2
structure Gr (w w':World):Prop where
 size:w.heap.size<=w'.heap.size
 keep:∀b,b<w.heap.size->w'.heap[b]?=w.heap[b]?
 os:w'.os=w.os
 tape:w'.tape=w.tape
 output:w'.output=w.output
section
variable {P:Program} {n:Nat} {f:Rg} {a:Act} {w:World} {K:K1} {Ka:Act->World->Prop} {Q:Exit->Act->World->Prop} {ops:Array Oper}
theorem cn (h:CSim n f a) (x:Operand):Rv (ev f x) (a.eval x):=by
 cases x with
 |tmp t=>exact h.slots t
 |const v=>cases v<;>first|rfl|trivial
 |global g=>rfl
 |func g=>rfl
theorem CSim.put (h:CSim n f a) (d:Option Nat) {x:S} {v:Value} (hv:Rv x v):CSim n (Go.Dv.put n f d x) (a.put d v) where
 size:=by rw[Go.Vc.Act.size_put];exact h.size
 defers:=by rw[Go.Vc.Act.defers_put];exact h.defers
 slots:=fun i=>by
  cases d with
  |none=>exact h.slots i
  |some d=>
   rw[Go.Vc.getD_put h.size]
   simp only[Go.Dv.put]
   by_cases hd:d<n
   ·simp only[hd,if_true,qr]
    by_cases hi:i=d
    ·simp [hi,hv]
    ·simp only[hi,false_and,if_false];exact h.slots i
   ·simp only[hd,if_false,and_false];exact h.slots i
theorem nh:∀ {xs:List Operand} {vs:List Value},CSim n f a->argsV (xs.map (ev f))=some vs->xs.map a.eval=vs
 | [],vs,_,h=>by simp [argsV] at h;simp [h]
 |x::r,vs,hs,h=>by
  have hx:=cn hs x
  simp only[List.map_cons] at h ⊢
  unfold argsV at h
  split at h
  ·rename_i e;simp at e
  ·rename_i z r' e
   injection e with e1 e2
   subst e2
   rw[e1] at hx
   split at h
   ·rename_i vs' hr
    injection h with h
    subst h
    rw[nh hs hr];exact congrArg (· :: vs') hx
   ·cases h
  ·cases h
theorem cI (a:Act) (d:Option Nat) (v:Value):∀j,j ∉ d.toList->(a.put d v).tmps.getD j undef=a.tmps.getD j undef:=(jR (β:=fun _=>none) a d v).tmps
theorem lE {o:Oper} {s:Sem Value} (hs:CSim n f a) (hr:∀w,(execOp a.eval o).run P w=((do pure (Next.value (<-s)):Sem Next).run P w))
 (h:bN P n o.dst s (fun f' _ _=>K f' w) f [] none) (hK:∀f' a' w',CSim n f' a'->(∀j,j ∉ o.dst.toList->a'.tmps.getD j undef=a.tmps.getD j undef)->K f' w'->Ka a' w'):o.wp P a w Ka Q:=by
 obtain⟨v,hv,_,hk⟩:=h
 exact aZ (v:=v) (w':=w) (by rw[hr];exact j6 (hv w)) (hK _ _ _ (hs.put o.dst (x:=.c (.v v)) rfl) (cI _ _ _) hk)
theorem BZ {o:Oper} (hs:CSim n f a) (h:cOp P n o K f w) (hK:∀f' a' w',CSim n f' a'->(∀j,j ∉ o.dst.toList->a'.tmps.getD j undef=a.tmps.getD j undef)->K f' w'->Ka a' w'):o.wp P a w Ka Q:=by
 unfold cOp at h
 split at h
 ·rename_i x ho
  exact aZ (v:=a.eval x) (w':=w) (by simp [execOp,ho]) (hK _ _ _ (hs.put o.dst (cn hs x)) (cI _ _ _) h)
 ·rename_i x ho
  exact aZ (v:=a.eval x) (w':=w) (by simp [execOp,ho]) (hK _ _ _ (hs.put o.dst (cn hs x)) (cI _ _ _) h)
 ·rename_i op t x y pos ho
  have hx:=cn hs x
  have hy:=cn hs y
  split at h
  ·rename_i u v e1 e2
   rw[e1] at hx;rw[e2] at hy
   have hx:a.eval x=u:=hx
   have hy:a.eval y=v:=hy
   exact lE hs (fun w'=>by simp [execOp,ho,hx,hy]) h hK
  ·exact h.elim
 ·rename_i op pos x ho
  have hx:=cn hs x
  split at h
  ·rename_i u e1
   rw[e1] at hx
   have hx:a.eval x=u:=hx
   exact lE hs (fun w'=>by simp [execOp,ho,hx]) h hK
  ·exact h.elim
 ·rename_i s t x ho
  have hx:=cn hs x
  split at h
  ·rename_i u e1
   rw[e1] at hx
   have hx:a.eval x=u:=hx
   exact lE hs (fun w'=>by simp [execOp,ho,hx]) h hK
  ·exact h.elim
 ·rename_i x i ho
  have hx:=cn hs x
  split at h
  ·rename_i ys e1
   rw[e1] at hx
   have hx:a.eval x = .tuple ys:=hx
   obtain⟨v,hv,hk⟩:=h
   exact aZ (v:=v) (w':=w) (by simp [execOp,ho,hx,Instr.extract,hv]) (hK _ _ _ (hs.put o.dst (x:=.c (.v v)) rfl) (cI _ _ _) hk)
  ·exact h.elim
 ·rename_i T x i ho
  have hx:=cn hs x
  have hi:=cn hs i
  split at h
  ·rename_i b off ln cp kk k e sz by' e1 e2 hel
   rw[e1] at hx;rw[e2] at hi
   have hx:a.eval x=_:=hx
   have hi:a.eval i=_:=hi
   obtain⟨h0,h1,h⟩:=h
   obtain⟨hu,inf,hinf,hsz,_⟩:=Go.Vc.elemS_spec hel
   have hrun:(execOp a.eval o).run P w = .ok (.value (.pointer (some (Addr.add ⟨b,off,none⟩ (k.toNat*sz))))) w:=by
    simp [execOp,ho,Instr.indexAt,hi,asIntOf,b9 hu,hx,h0,h1,sizeOf,typeInfo,hinf,hsz]
   rw[aV] at hrun
   exact aZ hrun (hK _ _ _ (hs.put o.dst (x:=.c (.v _)) rfl) (cI _ _ _) h)
  ·exact h.elim
 ·rename_i T x k ho
  have hx:=cn hs x
  split at h
  ·rename_i q b off hq e1
   rw[e1] at hx
   have hx:a.eval x=_:=hx
   have:=dA hq ⟨b,off,none⟩ w
   rw[aV] at this
   exact aZ (v:=.pointer (some ⟨b,off+q,none⟩)) (w':=w) (by simp only[execOp,ho,hx];exact j6 this) (hK _ _ _ (hs.put o.dst (x:=.c (.v _)) rfl) (cI _ _ _) h)
  ·exact h.elim
 ·rename_i x ho
  have hx:=cn hs x
  split at h
  ·rename_i ad e1
   rw[e1] at hx
   have hx:a.eval x=_:=hx
   exact aZ (v:=.pointer (some ad)) (w':=w) (by simp [execOp,ho,hx]) (hK _ _ _ (hs.put o.dst (x:=.c (.v _)) rfl) (cI _ _ _) h)
  ·exact h.elim
 ·rename_i t x ho
  have hx:=cn hs x
  split at h
  ·rename_i b off e1
   rw[e1] at hx
   have hx:a.eval x=_:=hx
   split at h
   ·rename_i k ht
    obtain⟨vs,hl,hc,hk⟩:=h
    have hl:=cg (P:=P) (w:=w) ht (ad:=⟨b,off,none⟩) (vs:=vs) hl (fun j v hj=>by rw[aV];exact hc j v hj)
    exact aZ (v:=.agg vs.toArray) (w':=w) (by simp [execOp,ho,Instr.loadAt,Instr.sureAddr,hx,hl]) (hK _ _ _ (hs.put o.dst (x:=.c (.v _)) rfl) (cI _ _ _) hk)
   ·obtain⟨ht,v,hv,hk⟩:=h
    have hl:=bZ (P:=P) (w:=w) ht (ad:=⟨b,off,none⟩) (v:=v) hv
    exact aZ (v:=v) (w':=w) (by simp [execOp,ho,Instr.loadAt,Instr.sureAddr,hx,hl]) (hK _ _ _ (hs.put o.dst (x:=.c (.v v)) rfl) (cI _ _ _) hk)
  ·exact h.elim
 ·rename_i t x y ho
  have hx:=cn hs x
  have hy:=cn hs y
  split at h
  ·rename_i b xs e1 e2
   rw[e1] at hx;rw[e2] at hy
   have hx:a.eval x=_:=hx
   have hy:a.eval y = .agg xs:=hy
   obtain⟨ht,⟨cur,tt,fz,hh,hlh,hlen⟩,hone,_,rfl,hk⟩:=h
   have hst:=cR P b 0 tt fz xs.toList 0 cur w hh hlh aa hone
   have e:(cur.toList.take (0+0)++xs.toList++cur.toList.drop (0+0+xs.toList.length)).toArray=xs.toList.toArray:=by
    rw[List.drop_eq_nil_of_le (by rw[hlen];simp)];simp
   rw[e] at hst
   exact eS (Go.Vc.store_run (w':=w.setRow b xs.toList.toArray) ho hx (by rw[hy,ht];simp [Value.cells,Go.Vc.sizeTS]) (by rw[ht];simp) (by rw[hy];simpa [Value.cells] using hst)) (hK _ _ _ (hs.put o.dst (x:=.c .dead) trivial) (cI _ _ _) hk)
  ·rename_i b off v _ e1 e2
   rw[e1] at hx;rw[e2] at hy
   have hx:a.eval x=_:=hx
   have hy:a.eval y=v:=hy
   obtain⟨ht,h1,hc,hf,_,rfl,hk⟩:=h
   have hsz:v.cells.size=1:=by cases v<;>first|rfl|cases h1
   have hcl:v.cells.toList=[v]:=by cases v<;>first|rfl|cases h1
   have hst:(storeCells ⟨b,off,none⟩ [v]).run P w = .ok () (w.setCell ⟨b,off,none⟩ v):=by
    have:=Go.Vc.run_storeCells_mem (P:=P) [v] ⟨b,off,none⟩ 0 w rfl (by simpa using h1) (fun j hj=>by
     obtain rfl:j=0:=by simpa using hj
     simpa [aV] using ⟨hc,hf⟩)
    simpa [Go.Vc.setCells,aV] using this
   exact eS (Go.Vc.store_run (w':=w.setCell ⟨b,off,none⟩ v) ho hx (by rw[hy,hsz,ht];rfl) (by rw[ht];simp) (by rw[hy,hcl];exact hst)) (hK _ _ _ (hs.put o.dst (x:=.c .dead) trivial) (cI _ _ _) hk)
  ·exact h.elim
 ·rename_i t ho
  split at h
  ·rename_i z hz
   obtain⟨v,hv,hc⟩:=Go.Vc.zeroC_run (gv hz).1 w
   refine aZ (v:=.pointer (some ⟨w.heap.size,0,none⟩)) (w':=w.alloc (.cells z.toArray t)) ?_ (hK _ _ _ (hs.put o.dst (x:=.c (.v _)) rfl) (cI _ _ _) (h _ _ rfl rfl))
   rw[<-hc]
   simp [execOp,ho,Instr.alloc,hv,d8]
  ·exact h.elim
 ·rename_i x u v ho
  have hx:=cn hs x
  split at h
  ·rename_i t e1
   rw[e1] at hx
   have hx:a.eval x = .bool t:=hx
   cases t with
   |true=>exact aZ (v:=a.eval u) (w':=w) (by simp [execOp,ho,hx,asBool]) (hK _ _ _ (hs.put o.dst (cn hs u)) (cI _ _ _) (h.1 rfl))
   |false=>exact aZ (v:=a.eval v) (w':=w) (by simp [execOp,ho,hx,asBool]) (hK _ _ _ (hs.put o.dst (cn hs v)) (cI _ _ _) (h.2 rfl))
  ·exact h.elim
 ·rename_i t x ho
  have hx:=cn hs x
  split at h
  ·rename_i xs e1
   rw[e1] at hx
   have hx:a.eval x = .agg xs:=hx
   refine aZ (v:=.pointer (some ⟨w.heap.size,0,none⟩)) (w':=w.alloc (.cells xs.toList.toArray t)) ?_ (hK _ _ _ (hs.put o.dst (x:=.c (.v _)) rfl) (cI _ _ _) (h _ _ rfl rfl))
   simp [execOp,ho,hx,Instr.box,d8,Value.cells]
  ·exact h.elim
 ·rename_i cc ho
  split at h
  ·rename_i g hg
   split at h
   ·rename_i gid vs e1 e2
    obtain⟨hcl,R,hR,hk⟩:=h
    have hge:a.eval g = .func (.func gid) #[] #[]:=by have:=cn hs g;rw[e1] at this;exact this
    have hargs:=nh hs e2
    have hrun:(execOp a.eval o).run P w = .ok (.enter gid vs.toArray) w:=by
     have he:cc.args.map a.eval=vs.toArray:=by rw[<-hargs,<-Array.toList_map]
     simp [execOp,ho,resolve,hg,hge,Deferred.ofValue,invoke,eW hcl,he]
    unfold Oper.wp
    rw[hrun,Oper.upon_enter]
    refine hR.mono ?_
    rintro e w' ⟨v,rfl,hv⟩
    exact hK _ _ _ (hs.put o.dst (x:=.c (.v v)) rfl) (cI _ _ _) (hk v w' hv)
   ·exact h.elim
  ·rename_i hg
   split at h
   ·rename_i ad ln cap T e1 e2
    obtain⟨hT,hk⟩:=h
    obtain⟨x,hx,hev⟩:=Go.Vc.map1 e1
    have ha:=Go.Vc.arr1 hx
    have ht:=Go.Vc.arr1 e2
    have hr:=cn hs x
    rw[hev] at hr
    have hr:a.eval x=_:=hr
    have hu:∃e,P.underlying T=some (.slice e):=by
     unfold Go.Vc.lenK at hT
     split at hT
     ·rename_i e he;exact⟨e,he⟩
     ·cases hT
     ·cases hT
    exact aZ (v:=.int .i64 ln) (w':=w) (Go.Vc.len_run ho hg ha ht (.inl ⟨_,_,_,hr,rfl,hu⟩)) (hK _ _ _ (hs.put o.dst (x:=.c (.v _)) rfl) (cI _ _ _) hk)
   ·rename_i u T e1 e2
    obtain⟨hT,hk⟩:=h
    obtain⟨x,hx,hev⟩:=Go.Vc.map1 e1
    have ha:=Go.Vc.arr1 hx
    have ht:=Go.Vc.arr1 e2
    have hr:=cn hs x
    rw[hev] at hr
    have hr:a.eval x=_:=hr
    have hu:P.underlying T=some .string:=by
     unfold Go.Vc.lenK at hT
     split at hT
     ·cases hT
     ·assumption
     ·cases hT
    exact aZ (v:=.int .i64 u.size) (w':=w) (Go.Vc.len_run ho hg ha ht (.inr ⟨_,hr,rfl,hu⟩)) (hK _ _ _ (hs.put o.dst (x:=.c (.v _)) rfl) (cI _ _ _) hk)
   ·exact h.elim
  ·exact h.elim
 ·exact h.elim
def Kp (ws:List Nat) (a a':Act):Prop:=∀j,j ∉ ws->a'.tmps.getD j undef=a.tmps.getD j undef
theorem Kp.refl (ws:List Nat) (a:Act):Kp ws a a:=fun _ _=>rfl
theorem Kp.trans {ws:List Nat} {a b c:Act} (h:Kp ws a b) (k:Kp ws b c):Kp ws a c:=fun j hj=>(k j hj).trans (h j hj)
theorem Kp.mono {ws us:List Nat} {a b:Act} (h:Kp ws a b) (k:∀j∈ws,j∈us):Kp us a b:=fun j hj=>h j fun e=>hj (k j e)
theorem J0 {ws:List Nat} {s:S} {y:Value} (h:Rv s y):Rv (kS ws [] s) y:=by
 cases s with
 |c x=>
  cases x with
  |fn g p q=>cases p<;>cases q<;>simp_all [Rv,kS,kC,qq]
  |_=>simp_all [Rv,kS,kC]
 |ag cs=>exact trivial
 |tu xs=>exact h.elim
def cRet (rs:List ResultVar) (R:Value->World->Prop):K1:=fun f w=>match rs with
 | [.tmp t]=>(match f t with | .c (.v x)=>R x w|_=>False)
 |_=>False
def cEnd (rs:List ResultVar) (R:Value->World->Prop):KX
 |.normal | .ret=>cRet rs R
 |_=>fun _ _=>False
def regsV:List Value->Rg
 | []=>fun _=>.c .dead
 |v::vs=>fun i=>match i with|0=>.c (.v v)|i+1=>regsV vs i
theorem r8 (k:Nat):∀(vs:List Value) (i:Nat),Rv (regsV vs i) ((vs++List.replicate k undef)[i]?.getD undef)
 | [],_=>trivial
 |v::vs,0=>rfl
 |v::vs,i+1=>by simpa [regsV] using r8 k vs i
end
end Go.Cv
namespace Go.Cv
open Go Go.RowKit Go.Dv
open Go.Vc (vis aQ CellF RowF ValsF D eh Cells Chg Grow setCells aV)
theorem Gr.trans {a b c:World} (h:Gr a b) (k:Gr b c):Gr a c:=
 ⟨Nat.le_trans h.size k.size,fun i hi=>(k.keep i (Nat.lt_of_lt_of_le hi h.size)).trans (h.keep i hi),k.os.trans h.os,k.tape.trans h.tape,k.output.trans h.output⟩
theorem vis_lt {w:World} {b:Nat} (h:Go.Vc.vis w b):b<w.heap.size:=by
 obtain⟨o,ho,_⟩:=h
 exact (Array.getElem?_eq_some_iff.1 ho).1
theorem Gr.grow {w w':World} (h:Gr w w'):Grow w w':=⟨fun b hb=>h.keep b (vis_lt hb),h.os,h.tape,h.output⟩
structure ChL (F:List Nat) (w w':World):Prop where
 chg:Chg F w w'
 size:w.heap.size<=w'.heap.size
 keep:∀b,b<w.heap.size->b ∉ F->w'.heap[b]?=w.heap[b]?
theorem ChL.store {w:World} {b o:Nat} {v:Value}:ChL [b] w (w.setCell ⟨b,o,none⟩ v):=⟨Chg.store,by rw[World.size_setCell];exact Nat.le_refl _,fun x _ hx=>Go.heap_setCell_other w ⟨b,o,none⟩ x v (by simpa using hx)⟩
theorem ChL.refl (F:List Nat) (w:World):ChL F w w:=⟨Chg.refl _ _,Nat.le_refl _,fun _ _ _=>rfl⟩
theorem ChL.trans {F:List Nat} {a b c:World} (h:ChL F a b) (k:ChL F b c):ChL F a c:=
 ⟨h.chg.trans k.chg,Nat.le_trans h.size k.size,fun x hx hn=>(k.keep x (Nat.lt_of_lt_of_le hx h.size) hn).trans (h.keep x hx hn)⟩
theorem ChL.mono {F G:List Nat} {a b:World} (h:ChL F a b) (hs:∀x∈F,x∈G):ChL G a b:=⟨h.chg.mono hs,h.size,fun x hx hn=>h.keep x hx fun e=>hn (hs x e)⟩
theorem Gr.chl {a b:World} (h:Gr a b) (F:List Nat):ChL F a b:=⟨h.grow.chg F,h.size,fun x hx _=>h.keep x hx⟩
def OwnL (m:World) (F:List Nat):Prop:=∀b∈F,∃cs t lh,m.heap[b]?=some (.cells cs t lh)/\Lh cs.size lh
theorem OwnL.nil (m:World):OwnL m []:=fun _ h=>by cases h
theorem vK {m:World} {b:Nat} (h:∃cs t lh,m.heap[b]?=some (.cells cs t lh)/\Lh cs.size lh):vis m b:=by
 obtain⟨cs,t,lh,h,_⟩:=h;exact⟨_,h,by simp [Go.Vc.hid]⟩
theorem OwnL.vis {m:World} {F:List Nat} (h:OwnL m F):∀b∈F,Go.Vc.vis m b:=fun b hb=>vK (h b hb)
theorem OwnL.app {m:World} {F G:List Nat} (h:OwnL m F) (k:OwnL m G):OwnL m (F++G):=fun b hb=>(List.mem_append.1 hb).elim (h b) (k b)
theorem OwnL.frozen {m:World} {F:List Nat} (h:OwnL m F) {b o:Nat} (hb:b∈F) (hc:(m.cell? ⟨b,o,none⟩).isSome=true):m.frozen? ⟨b,o,none⟩=false:=by
 obtain⟨cs,t,⟨lo,hi⟩,e,hl⟩:=h _ hb
 have ho:o<cs.size:=by
  unfold World.cell? at hc
  rw[e] at hc
  simpa using hc
 have:=hl o ho
 simp only[World.frozen?,e,Bool.and_eq_false_iff,decide_eq_false_iff_not]
 simp only at this
 omega
theorem OwnL.sub {F G:List Nat} {m:World} (h:OwnL m F) (hs:∀b∈G,b∈F):OwnL m G:=fun b hb=>h b (hs b hb)
end Go.Cv
namespace Go.Cv
open Go Go.RowKit Go.Dv
open Go.Vc (vis aQ CellF RowF ValsF D eh Cells Chg Grow aV callable)
variable [Out]
structure New (w w':World) (G:List Nat):Prop where
 nodup:G.Nodup
 new:∀b∈G,w.heap.size<=b
 own:OwnL w' G
def Res (P:Program) (w w':World) (r:S) (v:Value):Prop:=
 ∃ β ok,RelS P w' β ok (expS 9700 r) v/\(∀b,ok b -> ¬ownB (back r []) β b)/\(∀i o,Go.Dv.look (back r []) i=some o->RelO P w' β ok i o)/\(∀b,ownB (back r []) β b->w.heap.size<=b) /\
  (fps r []).flatten.Nodup/\(∀b∈(fps r []).flatten,w.heap.size<=b/\∃cs t lh,w'.heap[b]?=some (.cells cs t lh)/\Lh cs.size lh)
section
variable {P:Program} {w w':World}
theorem Cl.at {g:FuncId} {args:List S} {R:S->List (List C)->Prop} (h:Cl P g args [] R) (hp:bv (args.flatMap bb)=true) {vs:List Value}
 (hv:RelA P w (fun _=>none) (fun _=>True) args vs) (hg:GlW w (fun _=>False)) :
 callable P g=true/\Calls P g vs.toArray w fun e w'=>∃v,e = .returned v/\∃r,R r []/\Gr w w'/\Res P w w' r v:=by
 obtain⟨e1,e2⟩:=j0 9500 hp
 have el:lent args []=[]:=by simp [lent,e2,gy]
 have hno:∀ β b,¬ownB [] β b:=fun β b ⟨i,o,h1,_⟩=>by simp [Go.Dv.look] at h1
 have hok:tO (fun _=>True) (lent args []) (fun _=>none)=fun _=>True:=by
  funext b
  simp [tO,el,hno]
 refine⟨h.1,(h.2 w (fun _=>none) (fun _=>True) vs ?_ ?_ ?_).mono ?_⟩
 ·rw[e1,hok];exact hv
 ·rw[el];exact⟨fun i o hl=>by simp [Go.Dv.look] at hl,fun i j o o' b hl=>by simp [Go.Dv.look] at hl⟩
 ·exact hg.mono (fun _ _ _=>rfl) fun b hb _=>by rw[el] at hb;exact (hno _ _ hb).elim
 ·rintro e W' ⟨v,r,objs,β,rfl,hR,hP⟩
  have ho:objs=[]:=List.eq_nil_of_length_eq_zero (by simpa using hP.len)
  subst ho
  refine⟨v,rfl,r,hR,⟨hP.tr.size,fun b hb=>hP.tr.keep b hb (by rw[el];exact hno _ b),hP.outer.1,hP.outer.2.1,hP.outer.2.2⟩,β,_,hP.rel,fun b hb=>hb.1,hP.obs.rel,fun b hb=>?_,hP.fresh.1,fun b hb=>?_⟩
  ·by_cases hlt:b<w.heap.size
   ·have:=hP.tr.own b hlt hb
    rw[el] at this;exact (hno _ _ this).elim
   ·omega
  ·obtain⟨h1,h2,_⟩:=hP.fresh.2 b hb
   refine⟨h1.elim id fun h=>?_,h2⟩
   rw[el] at h;exact (hno _ _ h).elim
theorem Res.val {x v:Value} (h:Res P w w' (.c (.v x)) v):v=x:=by
 obtain⟨β,ok,h,_⟩:=h
 exact h.1
theorem pf {ok:Nat->Prop} {β:Nat->Option Nat}:∀ {ds:List D} {vs:List Value},(∀d∈ds,∀x,d = .lit x->True)->RelL P w β ok (aw ds) vs->∃G,ValsF w ds vs G
 | [],[],_,_=>⟨[],rfl⟩
 | [],_::_,_,h=>h.elim
 |_::_,[],_,h=>h.elim
 |.lit x::ds,v::vs,hh,h=>by
  obtain⟨G,hG⟩:=pf (fun d hd=>hh d (by simp [hd])) h.2
  obtain⟨h1,h2⟩:=(show v=x/\eh x from h.1)
  subst h1
  exact⟨G,[],G,⟨rfl,rfl,h2⟩,hG,by simp⟩
 |.sl n es::ds,v::vs,hh,h=>by
  obtain⟨G,hG⟩:=pf (fun d hd=>hh d (by simp [hd])) h.2
  obtain⟨H,h1,_⟩:=h.1
  exact⟨H++G,H,G,h1,hG,rfl⟩
theorem tD (b:Nat):∀ds:List D,expC b (aw ds)=aw ds
 | []=>rfl
 |d::ds=>by cases d<;>simp [aw,sM,expC,tD (b+10000) ds]
theorem Res.ag {ds:List D} {v:Value} (h:Res P w w' (.ag (aw ds)) v):∃vs G,v = .agg (vs:List Value).toArray/\ValsF w' ds vs G:=by
 obtain⟨β,ok,h,_⟩:=h
 simp only[expS,tD] at h
 obtain⟨vs,rfl,h⟩:=h
 obtain⟨G,hG⟩:=pf (fun _ _ _ _=>trivial) h
 exact⟨vs,G,rfl,hG⟩
structure Td (cs:List C) (ds:List D) (F:List (List Nat)):Prop where
 exp:∀b,expC b cs=cs
 obj:∀b,expO b cs=[]
 dat:dsOf cs=some (ds,some F)
 fp:fpL cs=F
 flat:flatL cs=true
 good:cs.all goodC=true
 kill:∀a b,kCs a b cs=cs
 frz:∀i n x,fCs i n x cs=cs
 owns:ownsC cs=none
 len:cs.length=ds.length
theorem Res.tdw {cs:List C} {ds:List D} {F:List (List Nat)} {v:Value} (ht:Td cs ds F) (h:Res P w w' (.ag cs) v):∃vs G,v = .agg (vs:List Value).toArray/\ValsF w' ds vs G/\New w w' G/\WhL w' ds vs:=by
 obtain⟨β,ok,h,hno,hobj,hnew,hnd,hfr⟩:=h
 simp only[expS,ht.exp] at h
 obtain⟨vs,rfl,h⟩:=h
 have hf:fps (.ag cs) []=F:=by simp [fps,bb,ht.fp,vE]
 rw[hf] at hnd hfr
 obtain⟨G,hG,hok,hs⟩:=lT ht.dat h
 exact⟨vs,G,rfl,hG,⟨(hs _ rfl).1.nodup hnd,fun b hb=>(hfr b ((hs _ rfl).1.mem hb)).1,fun b hb=>(hfr b ((hs _ rfl).1.mem hb)).2⟩,(hs _ rfl).2⟩
end
theorem Hf {w w':World} (h:Gr w w') (hg:GlW w (fun _=>False)):GlW w' (fun _=>False):=hg.mono (fun b hb _=>h.keep b hb) fun _ h _=>h
theorem AJ {w:World} {d:D} {ds:List D} {vs:List Value} {F:List Nat} (h:ValsF w (d::ds) vs F):∃v r F1 R,vs=v::r/\CellF w d v F1/\ValsF w ds r R/\F=F1++R:=by
 cases vs with
 |nil=>exact h.elim
 |cons v r=>obtain⟨F1,F2,h1,h2,h3⟩:=h;exact⟨v,r,F1,F2,rfl,h1,h2,h3⟩
theorem C0 {w:World} {vs:List Value} {F:List Nat} (h:ValsF w [] vs F):vs=[]/\F=[]:=by
 cases vs with
 |nil=>exact⟨rfl,h⟩
 |cons _ _=>exact h.elim
theorem aX {w:World} {d:D} {ds:List D} {v:Value} {r:List Value} {F R:List Nat} (h:CellF w d v F) (k:ValsF w ds r R):ValsF w (d::ds) (v::r) (F++R):=⟨F,R,h,k,rfl⟩
theorem lF {w:World}:ValsF w [] [] []:=rfl
theorem dg {w:World} {v:Value} (h:eh v):CellF w (.lit v) v []:=⟨rfl,rfl,h⟩
theorem gH {w w':World} {b:Nat} {cs:Array Value} {t:TypeId} (hb:b=w.heap.size) (hw:w'=w.alloc (.cells cs t)):w'.heap[b]?=some (.cells cs t (0,0))/\Gr w w':=by
 subst hb hw
 exact⟨Go.heap_alloc_new w _,by simp,fun x hx=>Go.heap_alloc_old w _ hx,rfl,rfl,rfl⟩
theorem bC {w:World} {b:Nat} {cs:Array Value} {t:TypeId} {lh:Nat×Nat} (h:w.heap[b]?=some (.cells cs t lh)) {j:Nat} {v:Value} (hv:cs[j]?=some v):w.cell? ⟨b,j,none⟩=some v:=by
 rw[cell_of_row w b j cs t lh h];exact hv
def av:List D->List (List (List Nat))->List C
 |.lit v::r,Fs=>.v v::av r Fs
 |.sl n ds::r,F::Fs=>.sl n ds (some F)::av r Fs
 |.sl n ds::r,[]=>.sl n ds none::av r []
 | [],_=>[]
def Ez:List D->Nat->Bool
 |.lit (.slice ..)::_,_=>false
 |.lit (.agg ..)::_,_=>false
 |.lit (.tuple ..)::_,_=>false
 |.lit _::r,k=>Ez r k
 |.sl .. :: r,k+1=>Ez r k
 |.sl .. :: _,0=>false
 | [],k=>k==0
theorem mt:∀(ds:List D) (Fs:List (List (List Nat))),Ez ds Fs.length=true->Td (av ds Fs) ds Fs.flatten
 | [],[],_=>⟨fun _=>rfl,fun _=>rfl,rfl,rfl,rfl,rfl,fun _ _=>rfl,fun _ _ _=>rfl,rfl,rfl⟩
 | [],_::_,h=>by simp [Ez] at h
 |.sl n es::r,[],h=>by simp [Ez] at h
 |.sl n es::r,F::Fs,h=>by
  have t:=mt r Fs (by simpa [Ez] using h)
  exact⟨fun b=>by simp [av,expC,t.exp],fun b=>by simp [av,expO,t.obj],by simp [av,dsOf,AW,t.dat,jQ],by simp [av,fpL,xM,t.fp],by simp [av,flatL,ij,t.flat],by simp [av,goodC,t.good],fun a b=>by simp [av,kCs,kC,t.kill],fun i m x=>by simp [av,fCs,fC,t.frz],by simp [av,ownsC,t.owns],by simp [av,t.len]⟩
 |.lit v::r,Fs,h=>by
  have t:=mt r Fs (by cases v<;>simp_all [Ez])
  have hd:AW (.v v)=some (.lit v,some []):=by cases v<;>first|rfl|simp [Ez] at h
  have hg:goodC (.v v)=true:=by cases v<;>first|rfl|simp [Ez] at h
  exact⟨fun b=>by simp [av,expC,t.exp],fun b=>by simp [av,expO,t.obj],by simp [av,dsOf,hd,t.dat,jQ],by simp [av,fpL,xM,t.fp],by simp [av,flatL,ij,t.flat],by simp [av,hg,t.good],fun a b=>by simp [av,kCs,kC,t.kill],fun i m x=>by simp [av,fCs,fC,t.frz],by simp [av,ownsC,t.owns],by simp [av,t.len]⟩
theorem ff {F G:List Nat} (h:∀x,F.count x<=G.count x):Sb F G:=h
end Go.Cv
set_option maxRecDepth 8000
namespace Go.Proofs.YtdmomaomffhidaaGreatDoor
open Go Go.Dv
open Go.Vc (D dm dq cV bq)
mutual
inductive ERow where
 |mk (l:List Expr)
end
mutual
def ERow.row:ERow->List D
 |.mk l=>.sl l.length (l.flatMap Expr.row)::[]
end
theorem ERow.row_mk (l:List Expr):(ERow.mk l).row = .sl l.length (l.flatMap Expr.row)::[]:=by rw[ERow.row]
mutual
inductive Stmt where
 |mk (kind:Int) (query:Query) (table:ByteArray) (rows:List ERow) (cols:List ByteArray) (sets:List Expr) (where_:List Expr)
end
mutual
def Stmt.row:Stmt->List D
 |.mk kind query table rows cols sets where_=>int kind::(query.row++str table :: .sl rows.length (rows.flatMap ERow.row) :: .sl cols.length (cols.flatMap srow) :: .sl sets.length (sets.flatMap Expr.row) :: .sl where_.length (where_.flatMap Expr.row)::[])
end
theorem Stmt.row_mk (kind:Int) (query:Query) (table:ByteArray) (rows:List ERow) (cols:List ByteArray) (sets:List Expr) (where_:List Expr):(Stmt.mk kind query table rows cols sets where_).row=int kind::(query.row++str table :: .sl rows.length (rows.flatMap ERow.row) :: .sl cols.length (cols.flatMap srow) :: .sl sets.length (sets.flatMap Expr.row) :: .sl where_.length (where_.flatMap Expr.row)::[]):=by rw[Stmt.row]
theorem vL {α:Type} {row:α->List D} {w:Nat} {l r:List α} {x:α} (h:l=x::r) (hl:∀x,(row x).length=w+1) (C:List D->Prop):(∃ds',l.flatMap row=ds' /\ ¬ds'=[]/\C ds')=C (row x++r.flatMap row):=by
 subst h
 rw[List.flatMap_cons]
 exact propext ⟨fun ⟨_,h1,_,h3⟩=>h1▸h3,fun h=>⟨_,rfl,fun h0=>by have:=congrArg List.length h0;rw[aD,hl] at this;simp at this,h⟩⟩
theorem cW {α:Type} {row:α->List D} {w:Nat} {l:List α} {i:Nat} {x:α} (hx:l[i]?=some x) (hl:∀x,(row x).length=w+1) (C:List D->Prop):(∃ds',(l.flatMap row).drop (i*(w+1))=ds' /\ ¬ds'=[]/\C ds')=C (row x++(l.drop (i+1)).flatMap row):=by
 rw[aI hl hx]
 exact propext ⟨fun ⟨_,h1,_,h3⟩=>h1▸h3,fun h=>⟨_,rfl,fun h0=>by have:=congrArg List.length h0;rw[aD,hl] at this;simp at this,h⟩⟩
end Go.Proofs.YtdmomaomffhidaaGreatDoor
set_option maxRecDepth 8000
namespace Go.Proofs.YtdmomaomffhidaaGreatDoor
open Go Go.Dv
open Go.Vc (D dm dq cV bq)
open Go.Cv
open Go.Vc (CellF ValsF callable)
section
variable {α:Type} (f:Int->α->α) (c:α->Nat)
def gc:List α->Nat
 | []=>0
 |e::es=>c e+gc es
theorem qD:∀(es fs:List α),gc c (es++fs)=gc c es+gc c fs
 | [],fs=>by simp [gc]
 |e::es,fs=>by simp [gc,qD es fs];omega
end
theorem Ko {p:Prop} (h:p:=by (try refine⟨by omega,?_⟩);exact ff fun x=>by (try simp only[List.count_append,List.count_nil]);omega):p:=h
theorem Gu {p:Prop} (h:p:=by (try refine⟨by omega,?_⟩);exact ff fun x=>by (try simp only[List.count_append]);omega):p:=h
theorem y5 {p:Prop} (h:p:=by (try refine⟨by omega,?_⟩);exact ff fun x=>by (try simp only[List.count_nil]);omega):p:=h
theorem JT {p:Prop} (h:p:=by (try refine⟨by omega,?_⟩);exact ff fun x=>by (try simp only[List.flatten_append,List.count_append,List.count_nil]);omega):p:=h
theorem mu {p:Prop} (h:p:=by (try refine⟨by omega,?_⟩);exact ff fun x=>by (try simp only[List.flatten_append,List.count_append]);omega):p:=h
theorem Kq {p:Prop} (h:p:=by (try refine⟨by omega,?_⟩);exact ff fun x=>by (try simp only[List.flatten_append,List.flatten_cons,List.count_append]);omega):p:=h
theorem J1 {p:Prop} (h:p:=by (try refine⟨by omega,?_⟩);exact ff fun x=>by (try simp only[fb]);omega):p:=h
theorem am:type_of% @Expr.row_mk:=@Expr.row_mk
theorem aG:type_of% @Query.row_mk:=@Query.row_mk
theorem aJ:type_of% @Expr.row_len:=@Expr.row_len
theorem pg:type_of% @Tok.row_len:=@Tok.row_len
end Go.Proofs.YtdmomaomffhidaaGreatDoor
