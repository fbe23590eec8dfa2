/-
  Words, numbers and tokens; trees.
  Conditions: none.
-/
import Derived.Test.YtbodcedhmccenaaGreatDoorSTypes
import Derived.Shelf.Strings.BuilderF
import Derived.Shelf.LaysM
import Derived.Shelf.LaysC
import Derived.Shelf.Strconv.Itoa3
import Derived.Shelf.Strings.Split
import Derived.Shelf.Strings.Replace
import Derived.Shelf.Strconv.AtoiAll
import Derived.Test.YtbodcedhmccenaaGreatDoorProg
import Derived.Lib.UnsafeStr
import Derived.Lib.AtoiTie
set_option linter.unusedVariables false
set_option linter.unusedSimpArgs false
set_option linter.unusedSectionVars false
set_option maxRecDepth 8000
namespace Go.Proofs.YtbodcedhmccenaaGreatDoor
open Go Go.Dv
open Go.Vc (D d5 d6 cM bo)
abbrev int (n:Int):D:=.lit (.int .i64 n)
abbrev bool (b:Bool):D:=.lit (.bool b)
abbrev str (s:ByteArray):D:=.lit (.string s)
abbrev vi (n:Int):S:=.c (.v (.int .i64 n))
abbrev vb (b:Bool):S:=.c (.v (.bool b))
abbrev vs (s:ByteArray):S:=.c (.v (.string s))
structure Val where
 kind:Int
 num:Int
 text:ByteArray
def Val.row (v:Val):List D:=[int v.kind,int v.num,str v.text]
structure Fa where
 code:Int
 name:ByteArray
def cF (l:Int) (s:Nat):Int:=if (s:Int)<=l then l-s else -1
def lJ (v:Val):Nat:=v.text.size
theorem gb {l:Int} {s:Nat} (h0:0<=l) : -1<=cF l s/\cF l s<=l:=by unfold cF;split<;>omega
theorem u5 {l:Int} {a b:Nat} (h:0<=cF l a):cF l (a+b)=cF (cF l a) b:=by
 unfold cF at *
 split at h
 ·rename_i h1
  rw[if_pos h1]
  by_cases h2:((a+b:Nat):Int)<=l
  ·rw[if_pos h2,if_pos (by omega)];omega
  ·rw[if_neg h2,if_neg (by omega)]
 ·omega
theorem pw {l:Int} {a b:Nat} (h:cF l a<0) (h0:0<=l):cF l (a+b) = -1:=by
 unfold cF at *
 split at h
 ·omega
 ·exact if_neg (by omega)
theorem kh {a b:Int} (h:a=b):vi a=vi b:=by rw[h]
theorem pg {a b:ByteArray} (h:a=b):vs a=vs b:=by rw[h]
theorem aF {a b:Bool} (h:a=b):vb a=vb b:=by rw[h]
theorem qV {α:Type} (g:α->Nat) {l:List α} {i:Nat} (h:i<l.length):((l.take (i+1)).map g).sum=((l.take i).map g).sum+g l[i]:=by
 rw[List.take_succ_eq_append_getElem h,List.map_append,List.sum_append];simp only[List.map_cons,List.map_nil,List.sum_cons,List.sum_nil,Nat.add_zero]
theorem gc {α:Type} (g:α->Nat) (l:List α) (i:Nat):∃r,(l.map g).sum=((l.take i).map g).sum+r:=⟨((l.drop i).map g).sum,by
 conv=>lhs;rw[<-List.take_append_drop i l]
 rw[List.map_append,List.sum_append]⟩
abbrev vu (b:Int):S:=.c (.v (.int .u8 b))
theorem dh (a l h:Int):Cl Tryz.prog 196 [vi a,vi l,vi h] [] fun r _=>r=vb (decide (l<=a/\a<=h)):=by
 refine ah ab false Tryz.func196 rfl (by kernel_rfl) ?_
 simp only[Tryz.f196,tt,seval]
 all_goals repeat' first|(refine aa (fun h=>?_) (fun h=>?_)<;>try simp only[tt,seval])|(intro _;try simp only[tt,seval])
 all_goals (refine⟨_,[],aF (Bool.eq_iff_iff.2 ?_),ak rfl⟩)
 all_goals (simp only[decide_eq_true_eq,decide_eq_false_iff_not,Bool.false_eq_true,false_iff] at *)
 all_goals omega
theorem jA (a:Int):Cl Tryz.prog 248 [vu a] [] fun r _=>r=vb (decide (48<=a/\a<=57)):=by
 refine ah ab false Tryz.func248 rfl (by kernel_rfl) ?_
 simp only[Tryz.f248,tt,seval]
 all_goals repeat' first|(refine aa (fun h=>?_) (fun h=>?_)<;>try simp only[tt,seval])|(intro _;try simp only[tt,seval])
 all_goals (refine⟨_,[],aF (Bool.eq_iff_iff.2 ?_),ak rfl⟩)
 all_goals (simp only[decide_eq_true_eq,decide_eq_false_iff_not,Bool.false_eq_true,false_iff] at *)
 all_goals omega
theorem nE (a:Int):Cl Tryz.prog 296 [vu a] [] fun r _=>r=vb (decide (48<=a/\a<=57)):=by
 refine ah ab false Tryz.func296 rfl (by kernel_rfl) ?_
 simp only[Tryz.f296,tt,seval]
 all_goals repeat' first|(refine aa (fun h=>?_) (fun h=>?_)<;>try simp only[tt,seval])|(intro _;try simp only[tt,seval])
 all_goals (refine⟨_,[],aF (Bool.eq_iff_iff.2 ?_),ak rfl⟩)
 all_goals (simp only[decide_eq_true_eq,decide_eq_false_iff_not,Bool.false_eq_true,false_iff] at *)
 all_goals omega
def ki (a:Int):Bool:=decide (97<=a/\a<=122)||decide (65<=a/\a<=90)||decide (a=95)
theorem lV (a:Int):Cl Tryz.prog 245 [vu a] [] fun r _=>r=vb (ki a):=by
 refine ah ab false Tryz.func245 rfl (by kernel_rfl) ?_
 simp only[Tryz.f245,tt,seval]
 all_goals repeat' first|(refine aa (fun h=>?_) (fun h=>?_)<;>try simp only[tt,seval])|(intro _;try simp only[tt,seval])
 all_goals (refine⟨_,[],aF (Bool.eq_iff_iff.2 ?_),ak rfl⟩)
 all_goals (simp only[decide_eq_true_eq,decide_eq_false_iff_not,Bool.or_eq_true,true_iff,ki] at *)
 all_goals omega
theorem yG (a:Int):Cl Tryz.prog 325 [vu a] [] fun r _=>r=vb (ki a):=by
 refine ah ab false Tryz.func325 rfl (by kernel_rfl) ?_
 simp only[Tryz.f325,tt,seval]
 all_goals repeat' first|(refine aa (fun h=>?_) (fun h=>?_)<;>try simp only[tt,seval])|(intro _;try simp only[tt,seval])
 all_goals (refine⟨_,[],aF (Bool.eq_iff_iff.2 ?_),ak rfl⟩)
 all_goals (simp only[decide_eq_true_eq,decide_eq_false_iff_not,Bool.or_eq_true,true_iff,ki] at *)
 all_goals omega
theorem j7 (s:ByteArray):Cl Tryz.prog 198 [vs s] [] fun r _=>r=vb (decide (1<=s.size/\s.size<=20)):=by
 refine ah ab false Tryz.func198 rfl (by kernel_rfl) ?_
 simp only[Tryz.f198,tt,seval]
 refine fun hs=>?_
 refine cZ (dh s.size 1 20) ?_ ?_<;>simp only[tt,seval]
 exact⟨_,_,aF (by simp only[decide_eq_decide];omega),ak rfl⟩
theorem j8 (s:ByteArray):Cl Tryz.prog 209 [vs s] [] fun r _=>r=vb (decide (1<=s.size/\s.size<=20)):=by
 refine ah ab false Tryz.func209 rfl (by kernel_rfl) ?_
 simp only[Tryz.f209,tt,seval]
 refine fun hs=>?_
 all_goals repeat' first|(refine aa (fun h=>?_) (fun h=>?_)<;>try simp only[tt,seval])|(intro _;try simp only[tt,seval])
 all_goals (refine⟨_,[],aF (Bool.eq_iff_iff.2 ?_),ak rfl⟩)
 all_goals (simp only[decide_eq_true_eq,decide_eq_false_iff_not,Bool.false_eq_true,false_iff] at *)
 all_goals omega
theorem u6 (a:Int):Cl Tryz.prog 295 [vu a] [] fun r _=>r=vb (ki a||decide (48<=a/\a<=57)):=by
 refine ah ab false Tryz.func295 rfl (by kernel_rfl) ?_
 simp only[Tryz.f295,tt,seval]
 refine cZ (yG a) ?_ ?_<;>simp only[tt,seval]
 refine aa (fun h=>?_) (fun h=>?_)
 ·simp only[tt,seval]
  exact⟨_,_,aF (by rw[h];rfl),ak rfl⟩
 ·simp only[tt,seval]
  refine cZ (nE a) ?_ ?_<;>simp only[tt,seval]
  exact⟨_,_,aF (by rw[h];rfl),ak rfl⟩
def up8 (b:UInt8):UInt8:=if 97<=b.toNat/\b.toNat<=122 then b-32 else b
def bW (s:ByteArray):ByteArray:=⟨(s.data.toList.map up8).toArray⟩
theorem eR (l:List UInt8):(aX l).length=l.length:=by simp [aX]
theorem ov {l:List UInt8} {i:Nat} (h:i<l.length):(aX l).drop i=D.lit (.int .u8 (l[i].toNat:Int))::(aX l).drop (i+1):=by
 unfold aX
 rw[<-List.map_drop,<-List.map_drop,List.drop_eq_getElem_cons h];rfl
theorem px {l:List UInt8} {i:Nat} {b:UInt8} (h:i<l.length):(aX l).take i++(D.lit (.int .u8 (b.toNat:Int))::(aX l).drop (i+1))=aX (l.set i b):=by
 unfold aX
 rw[List.set_eq_take_append_cons_drop,if_pos h,List.map_append,List.map_cons,List.map_take,List.map_drop]
theorem aD (s:ByteArray):s.data.toList.length=s.size:=by simp
def rk (l:List UInt8) (i:Nat):List UInt8:=(l.take i).map up8++l.drop i
theorem iE (l:List UInt8) (i:Nat):(rk l i).length=l.length:=by rw[rk,aB,List.length_map,<-aB,List.take_append_drop]
theorem su {l:List UInt8} {i:Nat} (h:i<l.length):(rk l i)[i]'(by rw[iE];exact h)=l[i]:=by
 have hl:((l.take i).map up8).length=i:=by simp;omega
 have:(rk l i)[i]?=some l[i]:=by
  rw[rk,List.getElem?_append_right (by omega),hl,Nat.sub_self,List.drop_eq_getElem_cons h];rfl
 rw[az (by rw[iE];exact h)] at this
 exact Option.some.inj this
theorem py {l:List UInt8} {i:Nat} (h:i<l.length):(rk l i).set i (up8 l[i])=rk l (i+1):=by
 have hl:((l.take i).map up8).length=i:=by simp;omega
 unfold rk
 rw[List.set_append_right _ _ (by omega),hl,Nat.sub_self,List.drop_eq_getElem_cons h,List.set_cons_zero,List.take_succ_eq_append_getElem h,List.map_append]
 simp
theorem mw {l:List UInt8} {i:Nat} (h:i<l.length) (hu:up8 l[i]=l[i]):rk l i=rk l (i+1):=by
 rw[<-py h,hu]
 conv=>rhs;rw[<-su h]
 rw[List.set_getElem_self]
theorem x8 (l:List UInt8):rk l l.length=l.map up8:=by simp [rk]
theorem sA {b:UInt8} (h:¬(97<=b.toNat/\b.toNat<=122)):up8 b=b:=if_neg h
theorem xb {b:UInt8} (h:97<=b.toNat) (h':b.toNat<=122):((up8 b).toNat:Int)=b.toNat-32:=by
 unfold up8
 rw[if_pos ⟨h,h'⟩,UInt8.toNat_sub_of_le _ _ (by rw[UInt8.le_iff_toNat_le];show 32<=_;omega)]
 show ((b.toNat-32:Nat):Int)=_
 omega
theorem pz (s:ByteArray) (hs:s.size<=1048576):Cl Tryz.prog 135 [vs s] [] fun r _=>r=vs (bW s):=by
 obtain⟨l,hl⟩:∃l,l=s.data.toList:=⟨_,rfl⟩
 have hll:l.length=s.size:=by rw[hl];exact aD s
 refine ah ab false Tryz.func135 rfl (by kernel_rfl) ?_
 simp only[Tryz.f135,tt,seval]
 rw[<-hl]
 refine dLoop.intro (fun f L p=>∃i:Nat,f 4=vi i/\i<=s.size/\L=[(6,.arr 5 s.size (aX (rk l i)) none)]/\p=none) (fun f _ _=>(s.size-bq (f 4)).toNat) [(6,.arr 5 s.size (aX l) none)] none ⟨ac rfl (al _),an _,?_⟩ ?_
 ·simp only[tt,seval]
  exact⟨0,rfl,by omega,by simp [rk]⟩
 ·rintro g L p ⟨i,h4,hi,rfl,rfl⟩
  simp only[tt,seval] at h4
  simp only[tt,seval,h4,Int.ofNat_lt]
  refine fun _=>aa (fun hlt=>?_) (fun hge=>?_)
  ·have hlt':i<(rk l i).length:=by rw[iE];omega
   have hd:=ov hlt'
   rw[su (by omega)] at hd
   have hi0:(0:Int)<=(i:Int):=Int.natCast_nonneg i
   have hlI:(i:Int)<(s.size:Int):=by omega
   simp only[tt,seval,hd,Nat.mul_one,hlt,hi0]
   refine aa (fun h=>?_) (fun h=>?_)
   ·simp only[tt,seval,h4,hd,Nat.mul_one,hi0,hlI]
    simp only[decide_eq_true_eq] at h
    refine aa (fun h'=>?_) (fun h'=>?_)
    ·rw[aq (n:=(i:Int)+1) (by omega) (by omega),IntWalk.u8_in _ ⟨by omega,by omega⟩,<-xb (by omega) (by omega),px hlt',py (by omega)]
     exact⟨by rw[eR,iE];omega,_,none,ac rfl (al _),an _,⟨i+1,rfl,by omega,rfl,rfl⟩,by simp only[bq];omega⟩
    ·rw[f5 i (by omega)]
     have hsame:=mw (l:=l) (i:=i) (by omega) (sA fun h1=>by omega)
     exact⟨_,none,ac rfl (al _),an _,⟨i+1,rfl,by omega,congrArg (fun x=>[(6,O.arr 5 s.size (aX x) none)]) hsame,rfl⟩,by simp only[bq];omega⟩
   ·simp only[tt,seval,h4,hd,Nat.mul_one,hi0,hlI]
    rw[f5 i (by omega)]
    have hsame:=mw (l:=l) (i:=i) (by omega) (sA fun h1=>by simp only[decide_eq_false_iff_not] at h;omega)
    exact⟨_,none,ac rfl (al _),an _,⟨i+1,rfl,by omega,congrArg (fun x=>[(6,O.arr 5 s.size (aX x) none)]) hsame,rfl⟩,by simp only[bq];omega⟩
  ·have:i=s.size:=by omega
   subst this
   refine⟨by kernel_rfl,by simp only[maxLen];omega,rk l s.size,by rw[iE];exact hll,rfl,?_⟩
   simp only[tt,seval]
   exact⟨_,_,pg (by rw[<-hll,x8,hl];rfl),ak rfl⟩
theorem ph (s:ByteArray) (hs:s.size<=1048576):Cl Tryz.prog 252 [vs s] [] fun r _=>r=vs (bW s):=by
 obtain⟨l,hl⟩:∃l,l=s.data.toList:=⟨_,rfl⟩
 have hll:l.length=s.size:=by rw[hl];exact aD s
 refine ah ab false Tryz.func252 rfl (by kernel_rfl) ?_
 simp only[Tryz.f252,tt,seval]
 rw[<-hl]
 refine fun _=>?_
 refine dLoop.intro (fun f L p=>∃i:Nat,f 10=vi i/\i<=s.size/\L=[(7,.arr 5 s.size (aX (rk l i)) none)]/\p=none) (fun f _ _=>(s.size-bq (f 10)).toNat) [(7,.arr 5 s.size (aX l) none)] none ⟨ac rfl (al _),an _,?_⟩ ?_
 ·simp only[tt,seval]
  exact⟨0,rfl,by omega,by simp [rk]⟩
 ·rintro g L p ⟨i,h4,hi,rfl,rfl⟩
  simp only[tt,seval] at h4
  simp only[tt,seval,h4,Int.ofNat_lt]
  refine aa (fun hlt=>?_) (fun hge=>?_)
  ·have hlt':i<(rk l i).length:=by rw[iE];omega
   have hd:=ov hlt'
   rw[su (by omega)] at hd
   have hi0:(0:Int)<=(i:Int):=Int.natCast_nonneg i
   have hlI:(i:Int)<(s.size:Int):=by omega
   simp only[tt,seval,hd,Nat.mul_one,hlt,hi0]
   refine aa (fun h=>?_) (fun h=>?_)
   ·simp only[tt,seval,h4,Nat.mul_one,hi0,hlI]
    simp only[decide_eq_true_eq] at h
    refine aa (fun h'=>?_) (fun h'=>?_)
    ·rw[aq (n:=(i:Int)+1) (by omega) (by omega),IntWalk.u8_in ((l[i].toNat:Int)-97) ⟨by omega,by omega⟩,IntWalk.u8_in _ ⟨by omega,by omega⟩,show (l[i].toNat:Int)-97+65=l[i].toNat-32 by omega,<-xb (by omega) (by omega),px hlt',py (by omega)]
     exact⟨by rw[eR,iE];omega,_,none,ac rfl (al _),an _,⟨i+1,rfl,by omega,rfl,rfl⟩,by simp only[bq];omega⟩
    ·rw[f5 i (by omega)]
     have hsame:=mw (l:=l) (i:=i) (by omega) (sA fun h1=>by omega)
     exact⟨_,none,ac rfl (al _),an _,⟨i+1,rfl,by omega,congrArg (fun x=>[(7,O.arr 5 s.size (aX x) none)]) hsame,rfl⟩,by simp only[bq];omega⟩
   ·simp only[tt,seval,h4,Nat.mul_one,hi0,hlI]
    rw[f5 i (by omega)]
    have hsame:=mw (l:=l) (i:=i) (by omega) (sA fun h1=>by simp only[decide_eq_false_iff_not] at h;omega)
    exact⟨_,none,ac rfl (al _),an _,⟨i+1,rfl,by omega,congrArg (fun x=>[(7,O.arr 5 s.size (aX x) none)]) hsame,rfl⟩,by simp only[bq];omega⟩
  ·have:i=s.size:=by omega
   subst this
   refine⟨by kernel_rfl,by simp only[maxLen];omega,rk l s.size,by rw[iE];exact hll,rfl,?_⟩
   simp only[tt,seval]
   exact⟨_,_,pg (by rw[<-hll,x8,hl];rfl),ak rfl⟩
def srow (s:ByteArray):List D:=[str s]
theorem eK (n:ByteArray):(srow n).length=1:=rfl
theorem l6 (v:ByteArray) (r:List D):srow v++r≠[]:=fun h=>by cases h
def kws:List ByteArray:=[⟨#[83,69,76,69,67,84]⟩,⟨#[68,73,83,84,73,78,67,84]⟩,⟨#[70,82,79,77]⟩,⟨#[74,79,73,78]⟩,⟨#[79,78]⟩,⟨#[87,72,69,82,69]⟩,⟨#[79,82,68,69,82]⟩,⟨#[66,89]⟩,⟨#[65,83,67]⟩,⟨#[68,69,83,67]⟩,⟨#[76,73,77,73,84]⟩,⟨#[65,83]⟩,⟨#[65,78,68]⟩,⟨#[79,82]⟩,⟨#[78,79,84]⟩,⟨#[73,83]⟩,⟨#[73,78]⟩,⟨#[66,69,84,87,69,69,78]⟩,⟨#[69,88,73,83,84,83]⟩,⟨#[78,85,76,76]⟩,⟨#[84,82,85,69]⟩,⟨#[70,65,76,83,69]⟩,⟨#[73,78,83,69,82,84]⟩,⟨#[73,78,84,79]⟩,⟨#[86,65,76,85,69,83]⟩,⟨#[85,80,68,65,84,69]⟩,⟨#[83,69,84]⟩,⟨#[68,69,76,69,84,69]⟩]
def kl:List ByteArray:=⟨#[]⟩::kws
theorem Ci:List.range 29=[0,1,2,3,4,5,6,7,8,9,10,11,12,13,14,15,16,17,18,19,20,21,22,23,24,25,26,27,28]:=rfl
theorem Ex (α:Type) (a:α):List.replicate 29 a=[a,a,a,a,a,a,a,a,a,a,a,a,a,a,a,a,a,a,a,a,a,a,a,a,a,a,a,a,a]:=rfl
theorem nF:Cl Tryz.prog 279 [] [] fun r _=>r = .c (.sl 29 (kl.flatMap srow) none):=by
 refine ah ab false Tryz.func279 rfl (by kernel_rfl) ?_
 simp only[tt,seval,Tryz.f279,Ci,Ex]
 refine⟨_,[],rfl,ai ?_⟩
 simp only[tt,seval,kl,kws,srow]
theorem xc {α:Type} {l:List α} {p:α->Bool} {i:Nat} (h:i<l.length) (hp:p l[i]=true) (hn:∀j (hj:j<i),p (l[j]'(by omega))=false):l.findIdx p=i:=(List.findIdx_eq h).2 ⟨hp,hn⟩
theorem sB {α:Type} {l:List α} {p:α->Bool} (hn:∀j (hj:j<l.length),p l[j]=false):l.findIdx p=l.length:=List.findIdx_eq_length_of_false fun x hx=>by
 obtain⟨j,hj,rfl⟩:=List.mem_iff_getElem.1 hx
 exact hn j hj
def my (f:ByteArray) (l:List ByteArray):Int:=if l.findIdx (fun w=>decide (w=f))<l.length then l.findIdx (fun w=>decide (w=f)) else -1
def lK (s:ByteArray):Int:=my (bW s) kws+1
theorem xd (l:List ByteArray) (f:ByteArray):Cl Tryz.prog 299 [.c (.sl l.length (l.flatMap srow) none),vs f] [] fun r _=>r=vi (my f l):=by
 refine ah ab false Tryz.func299 rfl (by kernel_rfl) ?_
 simp only[Tryz.f299,tt,seval]
 refine fun _=>?_
 refine dLoop.intro (fun f' L p=>∃i:Nat,f' 8=vi i/\i<=l.length/\(∀j (hj:j<l.length),j<i->l[j]≠f)/\L=[]/\p=none) (fun f' _ _=>(l.length-bq (f' 8)).toNat) [] none ⟨al _,an _,?_⟩ ?_
 ·simp only[tt,seval]
  exact⟨0,rfl,by omega,fun j _ h=>absurd h (Nat.not_lt_zero _)⟩
 ·rintro g L p ⟨i,h8,hi,hn,rfl,rfl⟩
  simp only[tt,seval] at h8
  simp only[tt,seval,h8,Int.ofNat_lt]
  refine aa (fun hlt=>?_) (fun hge=>?_)
  ·refine⟨by omega,by omega,_,aE eK (az hlt),l6 _ _,?_⟩
   simp only[tt,seval,h8,srow]
   refine aa (fun he=>?_) (fun he=>?_)
   ·refine⟨_,_,kh ?_,ak rfl⟩
    rw[my,xc hlt (by simp [he]) (fun j hj=>by simpa using hn j (by omega) hj),if_pos hlt]
   ·rw[f5 i (by omega)]
    exact⟨[],none,al _,an _,⟨i+1,rfl,by omega,fun j hj hji=>by
     by_cases e:j=i
     ·subst e;exact fun h=>he h.symm
     ·exact hn j hj (by omega),rfl,rfl⟩,by simp only[bq];omega⟩
  ·refine⟨_,_,kh ?_,ak rfl⟩
   rw[my,sB (fun j hj=>by simpa using hn j hj (by omega)),if_neg (by omega)]
theorem fJ (s:ByteArray):(bW s).size=s.size:=by
 show (List.toArray _).size=_
 simp
theorem rl:∀w∈kws,w.size<=8:=by decide
theorem rn:kl.length=29:=rfl
theorem mz:kws.length=28:=rfl
theorem vO {j:Nat} (h:j+1<kl.length):kl[j+1]=kws[j]'(by simp only[rn] at h;simp only[mz];omega):=rfl
theorem u7 {s:ByteArray} (h:8<s.size):lK s=0:=by
 unfold lK my
 rw[sB (l:=kws) (p:=fun w=>decide (w=bW s)) (fun j hj=>au fun e=>by
  have:=rl _ (aK hj)
  rw[e,fJ] at this
  omega),if_neg (Nat.lt_irrefl _)]
 rfl
theorem sC (s:ByteArray) (hs:s.size<=1048576):Cl Tryz.prog 247 [vs s] [] fun r _=>r=vi (lK s):=by
 refine ah ab false Tryz.func247 rfl (by kernel_rfl) ?_
 simp only[Tryz.f247,tt,seval]
 refine fun _=>aa (fun hlt=>?_) (fun hge=>?_)
 ·exact⟨_,_,kh (u7 (by omega)).symm,ak rfl⟩
 ·skip
  refine cZ (pz s hs) ?_ ?_<;>simp only[tt,seval]
  refine cZ (nF) ?_ ?_<;>simp only[tt,seval]
  refine dLoop.intro (fun f' L p=>∃i:Nat,f' 5=vi i/\1<=i/\i<=29/\(∀j (hj:j<kws.length),j+1<i->kws[j]≠bW s)/\L=[]/\p=none) (fun f' _ _=>(29-bq (f' 5)).toNat) [] none ⟨al _,an _,?_⟩ ?_
  ·simp only[tt,seval]
   exact⟨1,rfl,by omega,by omega,fun j _ h=>absurd h (by omega)⟩
  ·rintro g L p ⟨i,h8,hi1,hi,hn,rfl,rfl⟩
   simp only[tt,seval] at h8
   simp only[tt,seval,h8]
   refine aa (fun hlt=>?_) (fun hge=>?_)
   ·have hlt':i<kl.length:=by rw[rn];omega
    obtain⟨j,rfl⟩:∃j,i=j+1:=⟨i-1,by omega⟩
    have hj:j<kws.length:=by rw[mz];omega
    refine⟨by omega,by omega,_,aE eK (az hlt'),l6 _ _,?_⟩
    rw[vO hlt']
    simp only[tt,seval,h8,srow]
    refine aa (fun he=>?_) (fun he=>?_)
    ·refine⟨_,_,kh ?_,ak rfl⟩
     rw[lK,my,xc hj (by simp [he]) (fun j' hj'=>by simpa using hn j' (by omega) (by omega)),if_pos hj]
     omega
    ·rw[aq (n:=((j+1:Nat):Int)+1) (by omega) (by omega)]
     exact⟨[],none,al _,an _,⟨j+2,rfl,by omega,by omega,fun j' hj' hji=>by
      by_cases e:j'=j
      ·subst e;exact he
      ·exact hn j' hj' (by omega),rfl,rfl⟩,by simp only[bq];omega⟩
   ·refine⟨_,_,kh ?_,ak rfl⟩
    rw[lK,my,sB (fun j hj=>by simpa using hn j hj (by rw[mz] at hj;omega)),if_neg (by omega)]
    rfl
end Go.Proofs.YtbodcedhmccenaaGreatDoor
namespace Go.Proofs.YtbodcedhmccenaaGreatDoor
open Go Go.Shelf Go.Proofs
def Tryz.lays146_ren:Go.Shelf.Ren:=⟨fun|146=>259|221=>305|268=>329|138=>330|143=>294|195=>343|197=>344|218=>345|219=>324|260=>357|217=>322|225=>334|224=>335|267=>336|266=>333|314=>352|n=>n,fun|9=>9|31=>33|3=>3|4=>4|0=>0|105=>274|21=>21|5=>5|46=>218|119=>299|139=>302|138=>301|146=>284|51=>283|n=>n,fun|1=>0|3=>4|4=>5|n=>n⟩
theorem Tryz.lays146:Go.Proofs.Lays.n146 Tryz.prog Tryz.lays146_ren:={
 mixed:=by kernel_rfl
 f138:=Tryz.func330.trans (congrArg some (by kernel_rfl))
 f143:=Tryz.func294.trans (congrArg some (by kernel_rfl))
 f146:=Tryz.func259.trans (congrArg some (by kernel_rfl))
 f195:=Tryz.func343.trans (congrArg some (by kernel_rfl))
 f197:=Tryz.func344.trans (congrArg some (by kernel_rfl))
 f217:=Tryz.func322.trans (congrArg some (by kernel_rfl))
 f218:=Tryz.func345.trans (congrArg some (by kernel_rfl))
 f219:=Tryz.func324.trans (congrArg some (by kernel_rfl))
 f221:=Tryz.func305.trans (congrArg some (by kernel_rfl))
 f224:=Tryz.func335.trans (congrArg some (by kernel_rfl))
 f225:=Tryz.func334.trans (congrArg some (by kernel_rfl))
 f260:=Tryz.func357.trans (congrArg some (by kernel_rfl))
 f266:=Tryz.func333.trans (congrArg some (by kernel_rfl))
 f267:=Tryz.func336.trans (congrArg some (by kernel_rfl))
 f268:=Tryz.func329.trans (congrArg some (by kernel_rfl))
 f314:=Tryz.func352.trans (congrArg some (by kernel_rfl))
 t0:=Tryz.underlying0
 a0:=Tryz.isAgg0
 z0:=Tryz.sizeOf0
 v0:=Tryz.zeroValue0
 t3:=Tryz.underlying3
 a3:=Tryz.isAgg3
 z3:=Tryz.sizeOf3
 v3:=Tryz.zeroValue3
 t4:=Tryz.underlying4
 a4:=Tryz.isAgg4
 z4:=Tryz.sizeOf4
 v4:=Tryz.zeroValue4
 t5:=Tryz.underlying5
 a5:=Tryz.isAgg5
 z5:=Tryz.sizeOf5
 v5:=Tryz.zeroValue5
 t9:=Tryz.underlying9
 a9:=Tryz.isAgg9
 z9:=Tryz.sizeOf9
 v9:=Tryz.zeroValue9
 t21:=Tryz.underlying21
 a21:=Tryz.isAgg21
 z21:=Tryz.sizeOf21
 v21:=Tryz.zeroValue21
 t31:=Tryz.underlying33
 a31:=Tryz.isAgg33
 z31:=Tryz.sizeOf33
 v31:=Tryz.zeroValue33
 t46:=Tryz.underlying218
 a46:=Tryz.isAgg218
 z46:=Tryz.sizeOf218
 v46:=Tryz.zeroValue218
 t51:=Tryz.underlying283
 a51:=Tryz.isAgg283
 z51:=Tryz.sizeOf283
 v51:=Tryz.zeroValue283
 t105:=Tryz.underlying274
 a105:=Tryz.isAgg274
 z105:=Tryz.sizeOf274
 v105:=Tryz.zeroValue274
 t119:=Tryz.underlying299
 a119:=Tryz.isAgg299
 z119:=Tryz.sizeOf299
 t138:=Tryz.underlying301
 a138:=Tryz.isAgg301
 z138:=Tryz.sizeOf301
 v138:=Tryz.zeroValue301
 t139:=Tryz.underlying302
 a139:=Tryz.isAgg302
 z139:=Tryz.sizeOf302
 v139:=Tryz.zeroValue302
 t146:=Tryz.underlying284
 a146:=Tryz.isAgg284
 z146:=Tryz.sizeOf284
 v146:=Tryz.zeroValue284
 g1:=by kernel_rfl
 g3:=by kernel_rfl
 g4:=by kernel_rfl }
def Tryz.laysM171_ren:Go.Shelf.Ren:=⟨fun|171=>260|243=>306|246=>331|283=>346|284=>347|285=>348|286=>349|129=>359|317=>358|318=>360|319=>361|320=>362|337=>367|338=>368|n=>n,fun|3=>3|9=>9|2=>2|4=>4|171=>276|0=>0|53=>277|37=>22|5=>5|173=>280|212=>292|51=>283|20=>20|213=>293|46=>218|232=>305|233=>306|n=>n,fun|17=>3|18=>6|19=>7|n=>n⟩
theorem Tryz.laysM171:Go.Proofs.LaysM.n171 Tryz.prog Tryz.laysM171_ren:={
 mixed:=by kernel_rfl
 f129:=Tryz.func359.trans (congrArg some (by kernel_rfl))
 f171:=Tryz.func260.trans (congrArg some (by kernel_rfl))
 f243:=Tryz.func306.trans (congrArg some (by kernel_rfl))
 f246:=Tryz.func331.trans (congrArg some (by kernel_rfl))
 f283:=Tryz.func346.trans (congrArg some (by kernel_rfl))
 f284:=Tryz.func347.trans (congrArg some (by kernel_rfl))
 f285:=Tryz.func348.trans (congrArg some (by kernel_rfl))
 f286:=Tryz.func349.trans (congrArg some (by kernel_rfl))
 f317:=Tryz.func358.trans (congrArg some (by kernel_rfl))
 f318:=Tryz.func360.trans (congrArg some (by kernel_rfl))
 f319:=Tryz.func361.trans (congrArg some (by kernel_rfl))
 f320:=Tryz.func362.trans (congrArg some (by kernel_rfl))
 f337:=Tryz.func367.trans (congrArg some (by kernel_rfl))
 f338:=Tryz.func368.trans (congrArg some (by kernel_rfl))
 t0:=Tryz.underlying0
 a0:=Tryz.isAgg0
 z0:=Tryz.sizeOf0
 v0:=Tryz.zeroValue0
 t2:=Tryz.underlying2
 a2:=Tryz.isAgg2
 z2:=Tryz.sizeOf2
 v2:=Tryz.zeroValue2
 t3:=Tryz.underlying3
 a3:=Tryz.isAgg3
 z3:=Tryz.sizeOf3
 v3:=Tryz.zeroValue3
 t4:=Tryz.underlying4
 a4:=Tryz.isAgg4
 z4:=Tryz.sizeOf4
 v4:=Tryz.zeroValue4
 t5:=Tryz.underlying5
 a5:=Tryz.isAgg5
 z5:=Tryz.sizeOf5
 v5:=Tryz.zeroValue5
 t9:=Tryz.underlying9
 a9:=Tryz.isAgg9
 z9:=Tryz.sizeOf9
 v9:=Tryz.zeroValue9
 t20:=Tryz.underlying20
 a20:=Tryz.isAgg20
 z20:=Tryz.sizeOf20
 v20:=Tryz.zeroValue20
 t37:=Tryz.underlying22
 a37:=Tryz.isAgg22
 z37:=Tryz.sizeOf22
 v37:=Tryz.zeroValue22
 t46:=Tryz.underlying218
 a46:=Tryz.isAgg218
 z46:=Tryz.sizeOf218
 v46:=Tryz.zeroValue218
 t51:=Tryz.underlying283
 a51:=Tryz.isAgg283
 z51:=Tryz.sizeOf283
 v51:=Tryz.zeroValue283
 t53:=Tryz.underlying277
 a53:=Tryz.isAgg277
 z53:=Tryz.sizeOf277
 v53:=Tryz.zeroValue277
 t171:=Tryz.underlying276
 a171:=Tryz.isAgg276
 z171:=Tryz.sizeOf276
 v171:=Tryz.zeroValue276
 t173:=Tryz.underlying280
 a173:=Tryz.isAgg280
 z173:=Tryz.sizeOf280
 v173:=Tryz.zeroValue280
 t212:=Tryz.underlying292
 a212:=Tryz.isAgg292
 z212:=Tryz.sizeOf292
 v212:=Tryz.zeroValue292
 t213:=Tryz.underlying293
 a213:=Tryz.isAgg293
 z213:=Tryz.sizeOf293
 t232:=Tryz.underlying305
 a232:=Tryz.isAgg305
 z232:=Tryz.sizeOf305
 v232:=Tryz.zeroValue305
 t233:=Tryz.underlying306
 a233:=Tryz.isAgg306
 z233:=Tryz.sizeOf306
 v233:=Tryz.zeroValue306
 g17:=by kernel_rfl
 g18:=by kernel_rfl
 g19:=by kernel_rfl
 i0:=by kernel_rfl
 i2:=by kernel_rfl
 i3:=by kernel_rfl
 i4:=by kernel_rfl
 i5:=by kernel_rfl
 i9:=by kernel_rfl
 i20:=by kernel_rfl
 i37:=by kernel_rfl
 i46:=by kernel_rfl
 i51:=by kernel_rfl
 i53:=by kernel_rfl
 i171:=by kernel_rfl
 i173:=by kernel_rfl
 i212:=by kernel_rfl
 i232:=by kernel_rfl
 i233:=by kernel_rfl
 m17:=by kernel_rfl
 m18:=by kernel_rfl
 m19:=by kernel_rfl }
def Tryz.laysC172_ren:Go.Shelf.Ren:=⟨fun|172=>301|244=>326|245=>327|247=>337|279=>338|280=>339|281=>340|282=>341|287=>353|316=>354|171=>260|205=>355|321=>364|322=>365|243=>306|246=>331|283=>346|284=>347|285=>348|286=>349|129=>359|317=>358|318=>360|319=>361|320=>362|337=>367|338=>368|n=>n,fun|9=>9|3=>3|75=>166|76=>167|4=>4|5=>5|167=>267|37=>22|0=>0|85=>268|2=>2|168=>270|53=>277|175=>286|46=>218|210=>289|127=>227|145=>298|143=>296|21=>21|171=>276|173=>280|212=>292|51=>283|20=>20|213=>293|232=>305|233=>306|80=>170|n=>n,fun|15=>1|16=>2|17=>3|18=>6|19=>7|n=>n⟩
theorem Tryz.laysC172:Go.Proofs.LaysC.n172 Tryz.prog Tryz.laysC172_ren:={
 mixed:=by kernel_rfl
 f129:=Tryz.func359.trans (congrArg some (by kernel_rfl))
 f171:=Tryz.func260.trans (congrArg some (by kernel_rfl))
 f172:=Tryz.func301.trans (congrArg some (by kernel_rfl))
 f205:=Tryz.func355.trans (congrArg some (by kernel_rfl))
 f243:=Tryz.func306.trans (congrArg some (by kernel_rfl))
 f244:=Tryz.func326.trans (congrArg some (by kernel_rfl))
 f245:=Tryz.func327.trans (congrArg some (by kernel_rfl))
 f246:=Tryz.func331.trans (congrArg some (by kernel_rfl))
 f247:=Tryz.func337.trans (congrArg some (by kernel_rfl))
 f279:=Tryz.func338.trans (congrArg some (by kernel_rfl))
 f280:=Tryz.func339.trans (congrArg some (by kernel_rfl))
 f281:=Tryz.func340.trans (congrArg some (by kernel_rfl))
 f282:=Tryz.func341.trans (congrArg some (by kernel_rfl))
 f283:=Tryz.func346.trans (congrArg some (by kernel_rfl))
 f284:=Tryz.func347.trans (congrArg some (by kernel_rfl))
 f285:=Tryz.func348.trans (congrArg some (by kernel_rfl))
 f286:=Tryz.func349.trans (congrArg some (by kernel_rfl))
 f287:=Tryz.func353.trans (congrArg some (by kernel_rfl))
 f316:=Tryz.func354.trans (congrArg some (by kernel_rfl))
 f317:=Tryz.func358.trans (congrArg some (by kernel_rfl))
 f318:=Tryz.func360.trans (congrArg some (by kernel_rfl))
 f319:=Tryz.func361.trans (congrArg some (by kernel_rfl))
 f320:=Tryz.func362.trans (congrArg some (by kernel_rfl))
 f321:=Tryz.func364.trans (congrArg some (by kernel_rfl))
 f322:=Tryz.func365.trans (congrArg some (by kernel_rfl))
 f337:=Tryz.func367.trans (congrArg some (by kernel_rfl))
 f338:=Tryz.func368.trans (congrArg some (by kernel_rfl))
 t0:=Tryz.underlying0
 a0:=Tryz.isAgg0
 z0:=Tryz.sizeOf0
 v0:=Tryz.zeroValue0
 t2:=Tryz.underlying2
 a2:=Tryz.isAgg2
 z2:=Tryz.sizeOf2
 v2:=Tryz.zeroValue2
 t3:=Tryz.underlying3
 a3:=Tryz.isAgg3
 z3:=Tryz.sizeOf3
 v3:=Tryz.zeroValue3
 t4:=Tryz.underlying4
 a4:=Tryz.isAgg4
 z4:=Tryz.sizeOf4
 v4:=Tryz.zeroValue4
 t5:=Tryz.underlying5
 a5:=Tryz.isAgg5
 z5:=Tryz.sizeOf5
 v5:=Tryz.zeroValue5
 t9:=Tryz.underlying9
 a9:=Tryz.isAgg9
 z9:=Tryz.sizeOf9
 v9:=Tryz.zeroValue9
 t20:=Tryz.underlying20
 a20:=Tryz.isAgg20
 z20:=Tryz.sizeOf20
 v20:=Tryz.zeroValue20
 t21:=Tryz.underlying21
 a21:=Tryz.isAgg21
 z21:=Tryz.sizeOf21
 v21:=Tryz.zeroValue21
 t37:=Tryz.underlying22
 a37:=Tryz.isAgg22
 z37:=Tryz.sizeOf22
 v37:=Tryz.zeroValue22
 t46:=Tryz.underlying218
 a46:=Tryz.isAgg218
 z46:=Tryz.sizeOf218
 v46:=Tryz.zeroValue218
 t51:=Tryz.underlying283
 a51:=Tryz.isAgg283
 z51:=Tryz.sizeOf283
 v51:=Tryz.zeroValue283
 t53:=Tryz.underlying277
 a53:=Tryz.isAgg277
 z53:=Tryz.sizeOf277
 v53:=Tryz.zeroValue277
 t75:=Tryz.underlying166
 a75:=Tryz.isAgg166
 z75:=Tryz.sizeOf166
 v75:=Tryz.zeroValue166
 t76:=Tryz.underlying167
 a76:=Tryz.isAgg167
 z76:=Tryz.sizeOf167
 v76:=Tryz.zeroValue167
 t85:=Tryz.underlying268
 a85:=Tryz.isAgg268
 z85:=Tryz.sizeOf268
 v85:=Tryz.zeroValue268
 t127:=Tryz.underlying227
 a127:=Tryz.isAgg227
 z127:=Tryz.sizeOf227
 v127:=Tryz.zeroValue227
 t143:=Tryz.underlying296
 a143:=Tryz.isAgg296
 z143:=Tryz.sizeOf296
 v143:=Tryz.zeroValue296
 t145:=Tryz.underlying298
 a145:=Tryz.isAgg298
 z145:=Tryz.sizeOf298
 v145:=Tryz.zeroValue298
 t167:=Tryz.underlying267
 a167:=Tryz.isAgg267
 z167:=Tryz.sizeOf267
 v167:=Tryz.zeroValue267
 t168:=Tryz.underlying270
 a168:=Tryz.isAgg270
 z168:=Tryz.sizeOf270
 v168:=Tryz.zeroValue270
 t171:=Tryz.underlying276
 a171:=Tryz.isAgg276
 z171:=Tryz.sizeOf276
 v171:=Tryz.zeroValue276
 t173:=Tryz.underlying280
 a173:=Tryz.isAgg280
 z173:=Tryz.sizeOf280
 v173:=Tryz.zeroValue280
 t175:=Tryz.underlying286
 a175:=Tryz.isAgg286
 z175:=Tryz.sizeOf286
 v175:=Tryz.zeroValue286
 t210:=Tryz.underlying289
 a210:=Tryz.isAgg289
 z210:=Tryz.sizeOf289
 v210:=Tryz.zeroValue289
 t212:=Tryz.underlying292
 a212:=Tryz.isAgg292
 z212:=Tryz.sizeOf292
 v212:=Tryz.zeroValue292
 t213:=Tryz.underlying293
 a213:=Tryz.isAgg293
 z213:=Tryz.sizeOf293
 t232:=Tryz.underlying305
 a232:=Tryz.isAgg305
 z232:=Tryz.sizeOf305
 v232:=Tryz.zeroValue305
 t233:=Tryz.underlying306
 a233:=Tryz.isAgg306
 z233:=Tryz.sizeOf306
 v233:=Tryz.zeroValue306
 g15:=by kernel_rfl
 g16:=by kernel_rfl
 g17:=by kernel_rfl
 g18:=by kernel_rfl
 g19:=by kernel_rfl
 t80:=Tryz.underlying170
 a80:=Tryz.isAgg170
 z80:=Tryz.sizeOf170
 v80:=Tryz.zeroValue170
 i0:=by kernel_rfl
 i2:=by kernel_rfl
 i3:=by kernel_rfl
 i4:=by kernel_rfl
 i5:=by kernel_rfl
 i9:=by kernel_rfl
 i20:=by kernel_rfl
 i21:=by kernel_rfl
 i37:=by kernel_rfl
 i46:=by kernel_rfl
 i51:=by kernel_rfl
 i53:=by kernel_rfl
 i75:=by kernel_rfl
 i76:=by kernel_rfl
 i80:=by kernel_rfl
 i85:=by kernel_rfl
 i127:=by kernel_rfl
 i143:=by kernel_rfl
 i145:=by kernel_rfl
 i167:=by kernel_rfl
 i168:=by kernel_rfl
 i171:=by kernel_rfl
 i173:=by kernel_rfl
 i175:=by kernel_rfl
 i210:=by kernel_rfl
 i212:=by kernel_rfl
 i232:=by kernel_rfl
 i233:=by kernel_rfl
 m15:=by kernel_rfl
 m16:=by kernel_rfl
 m17:=by kernel_rfl
 m18:=by kernel_rfl
 m19:=by kernel_rfl
 c0:=by kernel_rfl
 c2:=by kernel_rfl
 c3:=by kernel_rfl
 c4:=by kernel_rfl
 c5:=by kernel_rfl
 c9:=by kernel_rfl
 c20:=by kernel_rfl
 c21:=by kernel_rfl
 c37:=by kernel_rfl
 c46:=by kernel_rfl
 c51:=by kernel_rfl
 c53:=by kernel_rfl
 c75:=by kernel_rfl
 c76:=by kernel_rfl
 c80:=by kernel_rfl
 c85:=by kernel_rfl
 c127:=by kernel_rfl
 c143:=by kernel_rfl
 c145:=by kernel_rfl
 c167:=by kernel_rfl
 c168:=by kernel_rfl
 c171:=by kernel_rfl
 c173:=by kernel_rfl
 c175:=by kernel_rfl
 c210:=by kernel_rfl
 c212:=by kernel_rfl
 c213:=by kernel_rfl
 c232:=by kernel_rfl
 c233:=by kernel_rfl }
end Go.Proofs.YtbodcedhmccenaaGreatDoor
set_option maxRecDepth 8000
namespace Go.Proofs.YtbodcedhmccenaaGreatDoor
open Go Go.Dv
open Go.Vc (D d5 d6 cM bo)
open Go.RowKit (Below)
theorem DL {w:World} {own:Nat->Prop} (h:GlW w own):∃ty lh,w.heap[3]?=some (.cells (Lib.pow10Tab.map fun z=>Value.int .u64 z).toArray ty lh):=by
 obtain⟨_,cs,ty,lh,h2,h3⟩:=h _ (List.mem_cons_self)
 exact⟨ty,lh,by rw[<-h3];exact h2⟩
theorem A1 {w:World} {own:Nat->Prop} (h:GlW w own):∃m,w.cell? ⟨0,0,none⟩=some (.int .i64 m):=by
 obtain⟨_,cs,ty,lh,h2,m,h3⟩:=h _ (List.mem_cons_of_mem _ (List.mem_cons_self))
 exact⟨m,by simp only[World.cell?,h2];exact h3⟩
theorem vP (w:World) (k:Nat) (os:Array Obj):Below w.heap.size w (Go.Sort.grow (w.drewN k) os):=
 ⟨rfl,rfl,rfl,by simp [Go.Sort.grow,World.drewN],fun i hi=>by simp [Go.Sort.grow,World.drewN,Array.getElem?_append,hi]⟩
def fo (n:Int):ByteArray:=⟨(Lib.itoa n).toArray⟩
theorem eL (u:Nat):∀k,u<10 ^ (k+1)->(Lib.decDigits u).length<=k+1:=by
 intro k
 induction k generalizing u with
 |zero=>intro h;rw[Lib.decDigits,dif_pos (by simpa using h)];simp
 |succ k ih=>
  intro h
  rw[Lib.decDigits]
  split
  ·simp
  ·have:=ih (u / 10) (by rw[Nat.pow_succ] at h;omega)
   simp only[aB,List.length_singleton];omega
theorem pA {n:Int} (h0 : -9223372036854775808<=n) (h1:n<=9223372036854775807):(Lib.itoa n).length<=20:=by
 unfold Lib.itoa
 split
 ·have:=eL n.natAbs 18 (by omega)
  simp only[List.length_cons];omega
 ·have:=eL n.toNat 18 (by omega)
  omega
theorem vQ {n:Int} (h0 : -9223372036854775808<=n) (h1:n<=9223372036854775807):(fo n).size<=20:=by
 show (List.toArray _).size<=20
 simpa using pA h0 h1
theorem DM (n:Int) (h0 : -9223372036854775808<=n) (h1:n<=9223372036854775807):Cl Tryz.prog 260 [vi n] [] fun r _=>r=vs (fo n):=
 Cl.ofVals (by kernel_rfl) [.int .i64 n] fun w hg=>by
  obtain⟨ty,lh,hp⟩:=DL hg
  refine (Any.strconv_Itoa Tryz.laysM171 n h0 h1 w ?_).mono ?_
  ·unfold Lib.TabIs World.var?
   rw[show Tryz.prog.globalNamed _=some 3 by kernel_rfl]
   simp only[Option.bind_some,hp]
  ·rintro e w' ⟨rfl,k,os,rfl⟩
   have:=vQ h0 h1
   exact⟨_,rfl,by show ByteArray.size _<=maxLen;simp only[maxLen];exact Nat.le_trans this (by decide),rfl,vP w k os⟩
end Go.Proofs.YtbodcedhmccenaaGreatDoor
set_option maxRecDepth 8000
namespace Go.Proofs.YtbodcedhmccenaaGreatDoor
open Go Go.Dv
open Go.Vc (D d5 d6 cM bo)
open Go.RowKit (Below)
open Go.Vc (CellF RowF ValsF okV)
def nG:ByteArray:=⟨#[83,69,76,69,67,84,32,68,73,83,84,73,78,67,84,32,70,82,79,77,32,74,79,73,78,32,79,78,32,87,72,69,82,69,32,79,82,68,69,82,32,66,89,32,65,83,67,32,68,69,83,67,32,76,73,77,73,84,32,65,83,32,65,78,68,32,79,82,32,78,79,84,32,73,83,32,73,78,32,66,69,84,87,69,69,78,32,69,88,73,83,84,83,32,78,85,76,76,32,84,82,85,69,32,70,65,76,83,69,32,73,78,83,69,82,84,32,73,78,84,79,32,86,65,76,85,69,83,32,85,80,68,65,84,69,32,83,69,84,32,68,69,76,69,84,69]⟩
theorem yH:Lib.splitB ⟨#[32]⟩ 0 (Lib.countB nG ⟨#[32]⟩) nG=kws:=by decide +kernel
theorem yI:Lib.countB nG ⟨#[32]⟩=27:=by decide +kernel
theorem ro (w:World):∀l:List ByteArray,(∀s∈l,s.size<=maxLen)->ValsF w (l.flatMap srow) (l.map Value.string) []
 | [],_=>rfl
 |s::r,h=>⟨[],[],⟨rfl,rfl,h s (by simp)⟩,ro w r fun x hx=>h x (by simp [hx]),rfl⟩
theorem yJ (w w':World) (ty:TypeId) (l:List ByteArray) (hl:l≠[]) (hs:∀s∈l,s.size<=maxLen) (hn:l.length<=maxLen) (β:Nat->Option Nat) (hw:w'.heap[w.heap.size]?=some (.cells (l.map Value.string).toArray ty (0,0))) :
 RelS Tryz.prog w' β (fun b=>w.heap.size<=b) (.c (.sl l.length (l.flatMap srow) none)) (.slice (some ⟨w.heap.size,0,none⟩) l.length l.length):=by
 have hrow:RowF w' w.heap.size 0 (l.flatMap srow) []:=(ro w' l hs).row fun j v hj=>by
  rw[cell_of_row w' w.heap.size (0+j) _ _ _ hw];simpa using hj
 refine⟨[w.heap.size],⟨some ⟨w.heap.size,0,none⟩,l.length,rfl,Nat.le_refl _,hn,(fun e=>by cases e),.inr ⟨?_,w.heap.size,0,[],rfl,hrow,rfl⟩⟩,(fun b hb=>by simp at hb;omega),(fun _ e=>by cases e)⟩
 cases l with
 |nil=>exact absurd rfl hl
 |cons s r=>simp [srow]
theorem Cj:Cl Tryz.prog 259 [vs nG,vs ⟨#[32]⟩] [] fun r _=>r = .c (.sl 28 (kws.flatMap srow) none):=
 Cl.ofNew (by kernel_rfl) [.string nG,.string ⟨#[32]⟩] fun w hg=>by
  obtain⟨m,hm⟩:=A1 hg
  refine (Any.strings_Split Tryz.lays146 (by kernel_rfl) nG ⟨#[32]⟩ m w (by decide) hm (by decide)).mono ?_
  rintro e w' ⟨rfl,rfl⟩
  rw[yH,yI]
  refine⟨_,_,rfl,rfl,by rfl,fun β=>yJ w _ _ kws (by decide) (fun s hs=>Nat.le_trans (rl s hs) (by decide)) (by decide) β (Go.heap_alloc_new w _),⟨rfl,rfl,rfl,by simp,fun i hi=>Go.heap_alloc_old w _ hi⟩⟩
theorem vR:Cl Tryz.prog 300 [] [] fun r _=>r = .c (.sl 28 (kws.flatMap srow) none):=by
 refine ah ab false Tryz.func300 rfl (by kernel_rfl) ?_
 simp only[tt,seval,Tryz.f300]
 refine eb Cj ?_ ?_ ?_
 ·decide
 ·simp only[tt,seval]
  rfl
 rintro r rfl
 simp only[tt,seval]
 exact⟨_,_,rfl,ak rfl⟩
theorem pB (s:ByteArray) (hs:s.size<=1048576):Cl Tryz.prog 251 [vs s] [] fun r _=>r=vi (lK s):=by
 refine ah ab false Tryz.func251 rfl (by kernel_rfl) ?_
 simp only[Tryz.f251,tt,seval]
 refine cZ (vR) ?_ ?_<;>simp only[tt,seval]
 refine cZ (ph s hs) ?_ ?_<;>simp only[tt,seval]
 refine cZ (xd kws (bW s)) ?_ ?_<;>simp only[tt,seval,mz]
 have h1 : -1<=my (bW s) kws/\my (bW s) kws<=28:=by
  unfold my
  have:=mz
  split<;>omega
 rw[aq (n:=my (bW s) kws+1) (by omega) (by omega)]
 exact⟨_,_,rfl,ak rfl⟩
end Go.Proofs.YtbodcedhmccenaaGreatDoor
set_option maxRecDepth 8000
namespace Go.Proofs.YtbodcedhmccenaaGreatDoor
open Go Go.Dv
open Go.Vc (D d5 d6 cM bo)
def rp (b:Int):Bool:=ki b||decide (48<=b/\b<=57)
def jB (s:ByteArray):Bool:=decide (1<=s.size/\s.size<=20)&&(!decide (48<=((s.data.toList.headD 0).toNat:Int)/\((s.data.toList.headD 0).toNat:Int)<=57)&&(decide (lK s=0)&&s.data.toList.all fun b=>rp b.toNat))
theorem cv {n:Nat} {d:Option Nat} {K:K0} {f:Rg} {L:Ob} {p:Po} {k:IntKind} {s:ByteArray} {i:Nat} {l:List UInt8} (hl:l=s.data.toList) (hi:i<l.length) :
 bL Tryz.prog n d (Instr.index 9 (.string s) (.int k (i:Int))) K f L p=K (put n f d (.c (.v (.int .u8 (l[i].toNat:Int))))) L p:=by
 subst hl
 have hi':i<s.size:=by rw[<-aD];exact hi
 rw[Bf (by kernel_rfl) (by omega) (by omega)]
 congr 6
theorem sD {n:Nat} {d:Option Nat} {K:K0} {f:Rg} {L:Ob} {p:Po} {k:IntKind} {s:ByteArray} {l:List UInt8} (hl:l=s.data.toList) (hi:0<l.length) :
 bL Tryz.prog n d (Instr.index 9 (.string s) (.int k 0)) K f L p=K (put n f d (.c (.v (.int .u8 (l[0].toNat:Int))))) L p:=cv (i:=0) hl hi
theorem sE (s:ByteArray):0<=lK s:=by unfold lK my;split<;>omega
theorem km (s:ByteArray) (hs:s.size<=1048576):Cl Tryz.prog 319 [vs s] [] fun r _=>r=vb (jB s):=by
 obtain⟨l,hl⟩:∃l,l=s.data.toList:=⟨_,rfl⟩
 have hll:l.length=s.size:=by rw[hl];exact aD s
 refine ah ab false Tryz.func319 rfl (by kernel_rfl) ?_
 simp only[Tryz.f319,tt,seval]
 refine cZ (j7 s) ?_ ?_<;>simp only[tt,seval]
 cases hN:decide (1<=s.size/\s.size<=20) with
 |false=>
  simp only[tt,seval]
  exact⟨_,_,aF (by rw[jB,hN];rfl),ak rfl⟩
 |true=>
  have hN':=of_decide_eq_true hN
  have hp:(0:Int)<(s.size:Int):=by omega
  have hlp:0<l.length:=by omega
  simp only[tt,seval]
  rw[sD hl (by omega)]
  simp only[tt,seval]
  refine cZ (jA l[0].toNat) ?_ ?_<;>simp only[tt,seval]
  have hh:s.data.toList.headD 0=l[0]:=by rw[<-hl];cases l with|nil=>exact absurd hlp (Nat.lt_irrefl _)|cons x r=>rfl
  cases hF:decide ((48:Int)<=(l[0].toNat:Int)/\(l[0].toNat:Int)<=57) with
  |true=>
   simp only[tt,seval]
   exact⟨_,_,aF (by rw[jB,hN,hh,hF];rfl),ak rfl⟩
  |false=>
   simp only[tt,seval]
   refine cZ (sC s hs) ?_ ?_<;>simp only[tt,seval]
   have hk:=sE s
   refine aa (fun h=>?_) (fun h=>?_)
   ·exact⟨_,_,aF (by rw[jB,hN,hh,hF,au (show ¬lK s=0 by omega)];rfl),ak rfl⟩
   ·have hpn:jB s=l.all fun b=>rp b.toNat:=by rw[jB,hN,hh,hF,av (show lK s=0 by omega),<-hl];rfl
    rw[hpn]
    refine dLoop.intro (fun f' L p=>∃i:Nat,f' 3=vi i/\i<=s.size/\(∀j (hj:j<l.length),j<i->rp l[j].toNat=true)/\L=[]/\p=none) (fun f' _ _=>(s.size-bq (f' 3)).toNat) [] none ⟨al _,an _,?_⟩ ?_
    ·simp only[tt,seval]
     exact⟨0,rfl,by omega,fun j _ h=>absurd h (Nat.not_lt_zero _)⟩
    ·rintro g L p ⟨i,h3,hi,hn,rfl,rfl⟩
     simp only[tt,seval] at h3
     simp only[tt,seval,h3,Int.ofNat_lt]
     refine fun _=>aa (fun hlt=>?_) (fun hge=>?_)
     ·have hil:i<l.length:=by omega
      rw[cv hl hil]
      simp only[tt,seval]
      refine cZ (lV l[i].toNat) ?_ ?_<;>simp only[tt,seval]
      cases hL:ki l[i].toNat with
      |true=>
       simp only[tt,seval,h3]
       rw[f5 i (by omega)]
       exact⟨[],none,al _,an _,⟨i+1,rfl,by omega,fun j hj hji=>by
        by_cases e:j=i
        ·subst e;rw[rp,hL];rfl
        ·exact hn j hj (by omega),rfl,rfl⟩,by simp only[bq];omega⟩
      |false=>
       simp only[tt,seval,h3]
       rw[cv hl hil]
       simp only[tt,seval]
       refine cZ (jA l[i].toNat) ?_ ?_<;>simp only[tt,seval,h3]
       refine aa (fun h=>?_) (fun h=>?_)
       ·simp only[Bool.not_eq_true',decide_eq_false_iff_not] at h
        refine⟨_,_,aF ?_,ak rfl⟩
        refine (Bool.eq_false_iff.2 fun e=>?_).symm
        have:=List.all_eq_true.1 e _ (aK hil)
        rw[rp,hL,Bool.false_or,decide_eq_true_eq] at this
        exact h this
       ·simp only[Bool.not_eq_false',decide_eq_true_eq] at h
        rw[f5 i (by omega)]
        exact⟨[],none,al _,an _,⟨i+1,rfl,by omega,fun j hj hji=>by
         by_cases e:j=i
         ·subst e;rw[rp,hL,Bool.false_or,decide_eq_true_eq];omega
         ·exact hn j hj (by omega),rfl,rfl⟩,by simp only[bq];omega⟩
     ·refine⟨_,_,aF ?_,ak rfl⟩
      refine (List.all_eq_true.2 fun x hx=>?_).symm
      obtain⟨j,hj,rfl⟩:=List.mem_iff_getElem.1 hx
      exact hn j hj (by omega)
def jC (c:UInt8) (l:List UInt8):List UInt8:=l.flatMap fun b=>if b=c then [c,c] else [b]
def pC (c:UInt8) (s:ByteArray):ByteArray:=⟨(c::(jC c s.data.toList++[c])).toArray⟩
theorem pE (c:UInt8) (l:List UInt8):(jC c l).length<=2*l.length:=by
 induction l with
 |nil=>simp [jC]
 |cons b r ih=>
  unfold jC at *
  rw[List.flatMap_cons,aB,List.length_cons]
  split<;>simp only[List.length_cons,List.length_nil]<;>omega
theorem ox {c:UInt8} {l:List UInt8} {i:Nat} (h:i<l.length):jC c (l.take (i+1))=jC c (l.take i)++(if l[i]=c then [c,c] else [l[i]]):=by
 unfold jC
 rw[List.take_succ_eq_append_getElem h,List.flatMap_append,List.flatMap_cons,List.flatMap_nil,List.append_nil]
theorem dE (l:List UInt8) (b:UInt8):aX l++[D.lit (.int .u8 (b.toNat:Int))]=aX (l++[b]):=by simp [aX]
theorem rq (s:ByteArray) (c:UInt8) (hs:s.size<=1048576):Cl Tryz.prog 320 [vs s,vu (c.toNat:Int)] [] fun r _=>r=vs (pC c s):=by
 obtain⟨l,hl⟩:∃l,l=s.data.toList:=⟨_,rfl⟩
 have hll:l.length=s.size:=by rw[hl];exact aD s
 refine ah ab false Tryz.func320 rfl (by kernel_rfl) ?_
 simp only[Tryz.f320,tt,seval]
 refine dLoop.gh [.ren 8 29] ⟨by decide,by decide,?_⟩
 refine dLoop0.intro (fun f L p=>∃(i:Nat) (bs:List UInt8),f 6=vi i/\f 5 = .c (.s 29 bs.length)/\i<=s.size/\bs=c::jC c (l.take i)/\L=[(29,.arr 5 bs.length (aX bs) none)]/\p=none) (fun f _ _=>(s.size-bq (f 6)).toNat) [(29,.arr 5 1 (aX [c]) none)] none ⟨ac rfl (al _),an _,?_⟩ ?_
 ·simp only[tt,seval]
  exact⟨0,[c],rfl,rfl,by omega,rfl,rfl⟩
 ·rintro g L p ⟨i,bs,h6,h5,hi,hbs,rfl,rfl⟩
  simp only[tt,seval] at h6 h5
  have hbl:bs.length<=1+2*i:=by
   have:=pE c (l.take i)
   rw[hbs,List.length_cons]
   rw[List.length_take] at this;omega
  simp only[tt,seval,h6,h5,Int.ofNat_lt]
  refine fun _=>aa (fun hlt=>?_) (fun hge=>?_)
  ·have hil:i<l.length:=by omega
   rw[cv hl hil]
   simp only[tt,seval,h6,h5]
   refine aa (fun heq=>?_) (fun hne=>?_)
   ·have hc:l[i]=c:=UInt8.toNat_inj.1 (by omega)
    refine⟨by kernel_rfl,⟨by simp only[maxLen];omega,by omega⟩,?_⟩
    rw[cv hl hil,dE]
    simp only[tt,seval,h6]
    refine⟨by kernel_rfl,⟨by simp only[maxLen];omega,by omega⟩,?_⟩
    rw[dE,aq (n:=(i:Int)+1) (by omega) (by omega)]
    refine⟨[(29,.arr 5 (bs++[c]++[l[i]]).length (aX (bs++[c]++[l[i]])) none)],none,ac (by simp [Go.Dv.look,Nat.add_assoc]) (al _),an _,⟨i+1,bs++[c]++[l[i]],rfl,by simp,by omega,?_,rfl,rfl⟩,by simp only[bq];omega⟩
    rw[ox hil,if_pos hc,hbs,hc];simp
   ·have hc:¬l[i]=c:=fun e=>hne (by rw[e])
    rw[cv hl hil]
    simp only[tt,seval,h6]
    refine⟨by kernel_rfl,⟨by simp only[maxLen];omega,by omega⟩,?_⟩
    rw[dE,aq (n:=(i:Int)+1) (by omega) (by omega)]
    refine⟨[(29,.arr 5 (bs++[l[i]]).length (aX (bs++[l[i]])) none)],none,ac (by simp [Go.Dv.look]) (al _),an _,⟨i+1,bs++[l[i]],rfl,by simp,by omega,?_,rfl,rfl⟩,by simp only[bq];omega⟩
    rw[ox hil,if_neg hc,hbs];simp
  ·have:i=s.size:=by omega
   subst this
   refine⟨by kernel_rfl,⟨by simp only[maxLen];omega,by omega⟩,?_⟩
   rw[dE]
   refine⟨by kernel_rfl,by simp only[maxLen];omega,bs++[c],by simp,rfl,?_⟩
   simp only[tt,seval]
   refine⟨_,_,pg ?_,ak rfl⟩
   rw[hbs,<-hll,List.take_length,hl];rfl
end Go.Proofs.YtbodcedhmccenaaGreatDoor
set_option maxRecDepth 8000
namespace Go.Proofs.YtbodcedhmccenaaGreatDoor
open Go Go.Dv
open Go.Vc (D d5 d6 cM bo)
open Go.RowKit (Below)
open Go.Vc (okV)
theorem data_append (a b:ByteArray):(a++b).data.toList=a.data.toList++b.data.toList:=by rw[ByteArray.data_append,Array.toList_append]
def one (c:UInt8):ByteArray:=⟨#[c]⟩
theorem nH {a b:ByteArray} (h:a.data.toList=b.data.toList):a=b:=by
 obtain⟨⟨x⟩⟩:=a;obtain⟨⟨y⟩⟩:=b
 simp only at h;rw[h]
def rt (s:ByteArray):ByteArray:=if 1<=s.size/\s.size<=20 then (if jB s=true then s else pC 34 s) else ⟨#[]⟩
theorem ua (s:ByteArray) (hs:s.size<=1048576):Cl Tryz.prog 286 [vs s] [] fun r _=>r=vs (pC 39 s):=by
 refine ah ab false Tryz.func286 rfl (by kernel_rfl) ?_
 simp only[Tryz.f286,tt,seval]
 refine cZ (rq s 39 hs) ?_ ?_<;>simp only[tt,seval]
 exact⟨_,_,rfl,ak rfl⟩
theorem vS (s:ByteArray) (hs:s.size<=1048576):Cl Tryz.prog 285 [vs s] [] fun r _=>r=vs (rt s):=by
 refine ah ab false Tryz.func285 rfl (by kernel_rfl) ?_
 simp only[Tryz.f285,tt,seval]
 refine cZ (j7 s) ?_ ?_<;>simp only[tt,seval]
 refine aa (fun h=>?_) (fun h=>?_)
 ·exact⟨_,_,pg (by rw[rt,if_neg (by simpa only[Bool.not_eq_true',decide_eq_false_iff_not] using h)]),ak rfl⟩
 ·skip
  refine cZ (km s hs) ?_ ?_<;>simp only[tt,seval]
  have h':1<=s.size/\s.size<=20:=by simpa only[Bool.not_eq_false',decide_eq_true_eq] using h
  refine aa (fun hp=>?_) (fun hp=>?_)
  ·exact⟨_,_,pg (by rw[rt,if_pos h',if_pos hp]),ak rfl⟩
  ·skip
   refine cZ (rq s 34 hs) ?_ ?_<;>simp only[tt,seval]
   exact⟨_,_,pg (by rw[rt,if_pos h',if_neg (by rw[hp];simp)]),ak rfl⟩
end Go.Proofs.YtbodcedhmccenaaGreatDoor
set_option maxRecDepth 8000
namespace Go.Proofs.YtbodcedhmccenaaGreatDoor
open Go Go.Dv
open Go.Vc (D d5 d6 cM bo)
def ec (v:Val):Bool:=
 if v.kind=0 then decide (v.num=0)&&decide (v.text=⟨#[]⟩) else if v.kind=1 then decide (v.text=⟨#[]⟩)
 else if v.kind=2 then decide (v.num=0)&&decide ((v.text.size:Int)<=200) else if v.kind=3 then decide (0<=v.num/\v.num<=1)&&decide (v.text=⟨#[]⟩) else false
theorem yK (v:Val):Cl Tryz.prog 314 [.ag (ar v.row)] [] fun r _=>r=vb (ec v):=by
 rw[Val.row]
 refine ah ab false Tryz.func314 rfl (by kernel_rfl) ?_
 simp only[Tryz.f314,tt,seval]
 refine aa (fun h0=>?_) (fun h0=>?_)
 ·refine aa (fun h=>?_) (fun h=>?_)<;>simp only[tt,seval]
  ·exact⟨_,_,aF (by rw[ec,if_pos h0,h];rfl),ak rfl⟩
  ·exact⟨_,_,aF (by rw[ec,if_pos h0,h];rfl),ak rfl⟩
 ·try simp only[tt,seval]
  refine aa (fun h1=>?_) (fun h1=>?_)
  ·exact⟨_,_,aF (by rw[ec,if_neg h0,if_pos h1]),ak rfl⟩
  ·try simp only[tt,seval]
   refine aa (fun h2=>?_) (fun h2=>?_)
   ·refine aa (fun h=>?_) (fun h=>?_)<;>simp only[tt,seval]
    ·exact fun _=>⟨_,_,aF (by rw[ec,if_neg h0,if_neg h1,if_pos h2,h];rfl),ak rfl⟩
    ·exact⟨_,_,aF (by rw[ec,if_neg h0,if_neg h1,if_pos h2,h];rfl),ak rfl⟩
   ·try simp only[tt,seval]
    refine aa (fun h3=>?_) (fun h3=>?_)
    ·try simp only[tt,seval]
     refine cZ (dh v.num 0 1) ?_ ?_<;>simp only[tt,seval]
     cases hn:decide ((0:Int)<=v.num/\v.num<=1)<;>simp only[tt,seval]
     ·exact⟨_,_,aF (by rw[ec,if_neg h0,if_neg h1,if_neg h2,if_pos h3,hn];rfl),ak rfl⟩
     ·exact⟨_,_,aF (by rw[ec,if_neg h0,if_neg h1,if_neg h2,if_pos h3,hn];rfl),ak rfl⟩
    ·exact⟨_,_,aF (by rw[ec,if_neg h0,if_neg h1,if_neg h2,if_neg h3]),ak rfl⟩
theorem vT (v:Val):Cl Tryz.prog 315 [.ag (ar v.row)] [] fun r _=>r=vb (ec v):=by
 rw[Val.row]
 refine ah ab false Tryz.func315 rfl (by kernel_rfl) ?_
 simp only[Tryz.f315,tt,seval]
 refine aa (fun h0=>?_) (fun h0=>?_)
 ·refine aa (fun h=>?_) (fun h=>?_)<;>simp only[tt,seval]
  ·exact⟨_,_,aF (by rw[ec,if_pos h0,h];rfl),ak rfl⟩
  ·exact⟨_,_,aF (by rw[ec,if_pos h0,h];rfl),ak rfl⟩
 ·try simp only[tt,seval]
  refine aa (fun h1=>?_) (fun h1=>?_)
  ·exact⟨_,_,aF (by rw[ec,if_neg h0,if_pos h1]),ak rfl⟩
  ·try simp only[tt,seval]
   refine aa (fun h2=>?_) (fun h2=>?_)
   ·refine aa (fun h=>?_) (fun h=>?_)<;>simp only[tt,seval]
    ·exact fun _=>⟨_,_,aF (by rw[ec,if_neg h0,if_neg h1,if_pos h2,h];rfl),ak rfl⟩
    ·exact⟨_,_,aF (by rw[ec,if_neg h0,if_neg h1,if_pos h2,h];rfl),ak rfl⟩
   ·try simp only[tt,seval]
    refine aa (fun h3=>?_) (fun h3=>?_)
    ·have fin:∀b:Bool,decide ((0:Int)<=v.num/\v.num<=1)=b->ec v=(b&&decide (v.text=⟨#[]⟩)):=fun b hb=>by rw[ec,if_neg h0,if_neg h1,if_neg h2,if_pos h3,hb]
     by_cases hz:v.num=0
     ·simp only[tt,seval,av hz]
      exact⟨_,_,aF (by rw[fin true (av (by omega))];rfl),ak rfl⟩
     ·simp only[tt,seval,au hz]
      by_cases ho:v.num=1
      ·simp only[tt,seval,av ho]
       exact⟨_,_,aF (by rw[fin true (av (by omega))];rfl),ak rfl⟩
      ·simp only[tt,seval,au ho]
       exact⟨_,_,aF (by rw[fin false (au (by omega))];rfl),ak rfl⟩
    ·exact⟨_,_,aF (by rw[ec,if_neg h0,if_neg h1,if_neg h2,if_neg h3]),ak rfl⟩
theorem yL (n:Int) (h0 : -9223372036854775808<=n) (h1:n<=9223372036854775807):Cl Tryz.prog 164 [vi n] [] fun r _=>r=vs (fo n):=by
 refine ah ab false Tryz.func164 rfl (by kernel_rfl) ?_
 simp only[Tryz.f164,tt,seval]
 refine cZ (DM n h0 h1) ?_ ?_<;>simp only[tt,seval]
 exact⟨_,_,rfl,ak rfl⟩
def sg (b:Bool) (k:Nat):Int:=if b=true then -(k:Int) else k
theorem DN (b:Bool) (k:Nat):(sg b k).tmod 10=sg b (k % 10):=by
 unfold sg;split
 ·rw[Int.neg_tmod];rfl
 ·rfl
theorem A2 (b:Bool) (k:Nat):(sg b k).tdiv 10=sg b (k / 10):=by
 unfold sg;split
 ·rw[Int.neg_tdiv];rfl
 ·rfl
theorem xf (b:Bool) (k:Nat):sg b k=0↔k=0:=by unfold sg;split<;>omega
def nI (k:Nat):UInt8:=UInt8.ofNat (48+k % 10)
theorem A3 (k:Nat):((nI k).toNat:Int)=48+(k % 10:Nat):=by
 unfold nI
 rw[UInt8.toNat_ofNat']
 omega
theorem kn {k:Nat} (h:k / 10≠0):Lib.decDigits k=Lib.decDigits (k / 10)++[nI k]:=by
 rw[Lib.decDigits,dif_neg (by omega)];rfl
theorem jX {k:Nat} (h:k / 10=0):Lib.decDigits k=[nI k]:=by
 have:k % 10=k:=by omega
 rw[Lib.decDigits,dif_pos (by omega),nI,this]
theorem mA (n:Int) (h0 : -9223372036854775808<=n) (h1:n<=9223372036854775807):Cl Tryz.prog 142 [vi n] [] fun r _=>r=vs (fo n):=by
 obtain⟨b,hb⟩:∃b,b=decide (n<0):=⟨_,rfl⟩
 refine ah ab false Tryz.func142 rfl (by kernel_rfl) ?_
 simp only[Tryz.f142,tt,seval]
 refine aa (fun hz=>?_) (fun hz=>?_)
 ·subst hz
  exact⟨_,_,pg (show (⟨#[48]⟩:ByteArray)=fo 0 by unfold fo Lib.itoa;rw[if_neg (by omega),Lib.decDigits,dif_pos (by decide)];rfl),ak rfl⟩
 ·rw[<-hb]
  refine dLoop.intro (fun f L p=>∃(k:Nat) (o:List UInt8),f 0=vi (sg b k)/\f 4=vs ⟨o.toArray⟩/\k<=n.natAbs/\Lib.decDigits n.natAbs=(if k=0 then o else Lib.decDigits k++o)/\L=[]/\p=none) (fun f _ _=>(bq (f 0)).natAbs) [] none ⟨al _,an _,?_⟩ ?_
  ·simp only[tt,seval]
   refine⟨n.natAbs,[],kh ?_,rfl,Nat.le_refl _,?_⟩
   ·rw[sg,hb];simp only[decide_eq_true_eq];split<;>omega
   ·rw[if_neg (by omega),List.append_nil]
  ·rintro g L p ⟨k,o,hk,ho,hkn,hd,rfl,rfl⟩
   simp only[tt,seval] at hk ho
   have hol:o.length<=20:=by
    have h2:=pA h0 h1
    have h3:(Lib.decDigits n.natAbs).length<=20:=eL n.natAbs 19 (by omega)
    rw[hd] at h3
    split at h3
    ·exact h3
    ·rw[aB] at h3;omega
   simp only[tt,seval,hk,ho,DN]
   refine aa (fun hne=>?_) (fun heq=>?_)
   ·have hk0:k≠0:=by
     simp only[Bool.not_eq_true',decide_eq_false_iff_not,xf] at hne;exact hne
    have hdv:=A3 k
    refine aa (fun hneg=>?_) (fun hpos=>?_)
    ·have hs:sg b (k % 10) = -((k % 10:Nat):Int):=by
      unfold sg at hneg ⊢
      split at hneg
      ·rename_i h;rw[if_pos h]
      ·omega
     have hval:IntKind.u8.wrap (IntKind.i64.wrap (48+IntKind.i64.wrap (0-sg b (k % 10))))=((nI k).toNat:Int):=by
      rw[hs,aq (n:=0 - -((k % 10:Nat):Int)) (by omega) (by omega),aq (by omega) (by omega),IntWalk.u8_in _ (by omega),hdv];omega
     refine⟨by kernel_rfl,by decide,[nI k],rfl,by rw[hval];rfl,?_⟩
     simp only[tt,seval,ho]
     have hsz:(⟨[nI k].toArray⟩:ByteArray).size+(⟨o.toArray⟩:ByteArray).size=1+o.length:=by show (List.toArray _).size+(List.toArray _).size=_;simp
     rw[g6 (by rw[hsz];omega)]
     simp only[tt,seval,hk,A2]
     rw[aq (n:=sg b (k / 10)) (by rw[sg];split<;>omega) (by rw[sg];split<;>omega)]
     refine⟨[],none,al _,an _,⟨k / 10,nI k::o,rfl,pg (nH (by rw[data_append];simp)),by omega,?_,rfl,rfl⟩,?_⟩
     ·rw[hd,if_neg hk0]
      split
      ·rename_i h;rw[jX h];rfl
      ·rename_i h;rw[kn h];simp
     ·simp only[bq,sg];split<;>omega
    ·have hs:sg b (k % 10)=((k % 10:Nat):Int):=by
      unfold sg at hpos ⊢
      split at hpos
      ·rename_i h;rw[if_pos h];omega
      ·rename_i h;rw[if_neg h]
     have hval:IntKind.u8.wrap (IntKind.i64.wrap (48+sg b (k % 10)))=((nI k).toNat:Int):=by
      rw[hs,aq (by omega) (by omega),IntWalk.u8_in _ (by omega),hdv]
     refine⟨by kernel_rfl,by decide,[nI k],rfl,by rw[hval];rfl,?_⟩
     simp only[tt,seval,ho]
     have hsz:(⟨[nI k].toArray⟩:ByteArray).size+(⟨o.toArray⟩:ByteArray).size=1+o.length:=by show (List.toArray _).size+(List.toArray _).size=_;simp
     rw[g6 (by rw[hsz];omega)]
     simp only[tt,seval,hk,A2]
     rw[aq (n:=sg b (k / 10)) (by rw[sg];split<;>omega) (by rw[sg];split<;>omega)]
     refine⟨[],none,al _,an _,⟨k / 10,nI k::o,rfl,pg (nH (by rw[data_append];simp)),by omega,?_,rfl,rfl⟩,?_⟩
     ·rw[hd,if_neg hk0]
      split
      ·rename_i h;rw[jX h];rfl
      ·rename_i h;rw[kn h];simp
     ·simp only[bq,sg];split<;>omega
   ·have hk0:k=0:=by
     simp only[Bool.not_eq_false',decide_eq_true_eq,xf] at heq;exact heq
    subst hk0
    rw[if_pos rfl] at hd
    refine aa (fun hb1=>?_) (fun hb0=>?_)
    ·have hn:n<0:=by rw[hb] at hb1;exact of_decide_eq_true hb1
     have hsz:(⟨#[45]⟩:ByteArray).size+(⟨o.toArray⟩:ByteArray).size=1+o.length:=by show 1+(List.toArray _).size=_;simp
     rw[g6 (by rw[hsz];omega)]
     simp only[tt,seval]
     exact⟨_,_,pg (nH (by rw[data_append];simp [fo,Lib.itoa,hn,hd])),ak rfl⟩
    ·have hn:¬n<0:=by rw[hb] at hb0;exact of_decide_eq_false hb0
     have e:n.toNat=n.natAbs:=by omega
     exact⟨_,_,pg (nH (by simp [fo,Lib.itoa,hn,e,hd])),ak rfl⟩
theorem eS (a b:List UInt8):aX a++aX b=aX (a++b):=by simp [aX]
end Go.Proofs.YtbodcedhmccenaaGreatDoor
set_option maxRecDepth 8000
namespace Go.Proofs.YtbodcedhmccenaaGreatDoor
open Go Go.Dv
open Go.Vc (D d5 d6 cM bo)
open Go.Lib in
theorem lW:∀(l:List UInt8) (acc m:Nat),decFrom acc l=some m->acc<=m
 | [],acc,m,h=>by simp only[decFrom,Option.some.injEq] at h;omega
 |b::r,acc,m,h=>by
  simp only[decFrom] at h
  split at h
  ·have:=lW r _ m h;omega
  ·cases h
open Go.Lib in
theorem ru:∀(l:List UInt8) (acc m:Nat),decFrom acc l=some m->m<18446744073709551616->parseUint10 acc l = .ok m
 | [],acc,m,h,_=>by simp only[decFrom,Option.some.injEq] at h;subst h;rfl
 |b::r,acc,m,h,hm=>by
  simp only[decFrom,digitVal] at h
  split at h
  ·rename_i d hd
   split at hd
   ·rename_i hb
    injection hd with hd
    have:=lW r _ m h
    simp only[parseUint10,if_pos hb]
    rw[if_neg (by omega),if_neg (by omega),hd]
    exact ru r _ m h hm
   ·cases hd
  ·cases h
open Go.Lib in
theorem gG:∀(l:List UInt8) (acc:Nat) (b:UInt8),decFrom acc (l++[b])=match decFrom acc l,digitVal b with|some n,some d=>some (n*10+d)|_,_=>none
 | [],acc,b=>by simp only[List.nil_append,decFrom];cases digitVal b<;>rfl
 |c::r,acc,b=>by
  simp only[List.cons_append,decFrom]
  cases digitVal c with
  |none=>rfl
  |some d=>exact gG r _ b
open Go.Lib in
theorem sF {l:List UInt8} {i:Nat} {b:UInt8} (hb:l[i]?=some b) (hd:digitVal b=none):∀acc,decFrom acc l=none:=by
 induction l generalizing i with
 |nil=>simp at hb
 |cons c r ih=>
  intro acc
  simp only[decFrom]
  cases i with
  |zero=>simp only[List.getElem?_cons_zero,Option.some.injEq] at hb;subst hb;rw[hd]
  |succ i=>
   cases digitVal c with
   |none=>rfl
   |some d=>exact ih (by simpa using hb) _
open Go.Lib in
theorem oy {d:Nat} (h:d<10):digitVal (UInt8.ofNat (48+d))=some d:=by
 have e:(UInt8.ofNat (48+d)).toNat=48+d:=by simp;omega
 unfold digitVal
 rw[e,if_pos (by omega)]
 congr 1;omega
open Go.Lib in
theorem gR (u:Nat):decFrom 0 (decDigits u)=some u:=by
 induction u using Nat.strongRecOn with
 |ind u ih=>
  rw[decDigits]
  split
  ·rename_i h
   have:=gG [] 0 (UInt8.ofNat (48+u))
   rw[oy h] at this
   simpa [decFrom] using this
  ·rename_i h
   rw[gG,ih (u / 10) (by omega),oy (by omega)]
   simp only[Option.some.injEq];omega
open Go.Lib in
theorem ko (u:Nat):∃b r,decDigits u=b::r/\48<=b.toNat/\b.toNat<=57:=by
 induction u using Nat.strongRecOn with
 |ind u ih=>
  rw[decDigits]
  split
  ·rename_i h
   exact⟨_,[],rfl,by simp;omega,by simp;omega⟩
  ·rename_i h
   obtain⟨b,r,h1,h2⟩:=ih (u / 10) (by omega)
   rw[h1]
   exact⟨b,_,rfl,h2⟩
open Go.Lib in
def iW (l:List UInt8):Option Nat:=match decFrom 0 l with
 |some m=>if m<9223372036854775808/\decDigits m=l then some m else none
 |none=>none
open Go.Lib in
theorem f7 {l:List UInt8} {m:Nat}:iW l=some m↔m<9223372036854775808/\decDigits m=l:=by
 unfold iW
 constructor
 ·intro h
  split at h
  ·split at h
   ·rename_i hc;injection h with h;subst h;exact hc
   ·cases h
  ·cases h
 ·rintro⟨h1,rfl⟩
  rw[gR]
  simp [h1]
open Go.Lib in
theorem pF (m:Nat):itoa (m:Int)=decDigits m:=by
 unfold itoa
 rw[if_neg (by omega)];rfl
open Go.Lib in
theorem nJ {l:List UInt8} {m:Nat} (h:iW l=some m):atoiAll l = .ok (m:Int):=by
 obtain⟨h1,rfl⟩:=f7.1 h
 obtain⟨b,r,hb,h2,h3⟩:=ko m
 have hd:=gR m
 rw[hb] at hd ⊢
 rw[atoiAll_plain b r (by omega) (by omega)]
 unfold parseMag
 rw[if_neg (by simp),ru _ _ _ hd (by omega)]
 simp only[signless]
 rw[if_neg (by omega)]
open Go.Lib in
theorem yM {l:List UInt8} {v:Int} (h:atoiAll l = .ok v) (h0:0<=v) (hi:itoa v=l):iW l=some v.toNat:=by
 have hb:=atoiAll_bounds h
 refine f7.2 ⟨by omega,?_⟩
 rw[<-hi]
 unfold itoa
 rw[if_neg (by omega)]
end Go.Proofs.YtbodcedhmccenaaGreatDoor
set_option maxRecDepth 8000
namespace Go.Proofs.YtbodcedhmccenaaGreatDoor
open Go Go.Dv
open Go.Vc (D d5 d6 cM bo)
abbrev irow (n:Int):List D:=[int n]
mutual
inductive Expr where
 |mk (kind:Int) (op:Int) (not:Bool) (val:Val) (qual:ByteArray) (name:ByteArray) (kids:List Expr) (sub:List Query)
inductive Item where
 |mk (star:Bool) (qual:ByteArray) (e:Expr) (as_:ByteArray)
inductive Source where
 |mk (table:ByteArray) (as_:ByteArray) (on:List Expr)
inductive SortKey where
 |mk (e:Expr) (desc:Bool)
inductive Query where
 |mk (distinct:Bool) (items:List Item) (from_:List Source) (where_:List Expr) (order:List SortKey) (limit:Int)
end
mutual
def Expr.row:Expr->List D
 |.mk kind op not val qual name kids sub=>int kind::int op::bool not::int val.kind::int val.num::str val.text::str qual::str name :: .sl kids.length (gS kids) :: .sl sub.length (j9 sub)::[]
def Item.row:Item->List D
 |.mk star qual e as_=>bool star::str qual::(e.row++str as_::[])
def Source.row:Source->List D
 |.mk table as_ on=>str table::str as_ :: .sl on.length (gS on)::[]
def SortKey.row:SortKey->List D
 |.mk e desc=>(e.row++bool desc::[])
def Query.row:Query->List D
 |.mk distinct items from_ where_ order limit=>bool distinct :: .sl items.length (kp items) :: .sl from_.length (gU from_) :: .sl where_.length (gS where_) :: .sl order.length (ge order)::int limit::[]
def gS:List Expr->List D
 | []=>[]
 |x::r=>x.row++gS r
def kp:List Item->List D
 | []=>[]
 |x::r=>x.row++kp r
def j9:List Query->List D
 | []=>[]
 |x::r=>x.row++j9 r
def ge:List SortKey->List D
 | []=>[]
 |x::r=>x.row++ge r
def gU:List Source->List D
 | []=>[]
 |x::r=>x.row++gU r
end
theorem iF:∀l:List Expr,gS l=l.flatMap Expr.row
 | []=>by rw[gS,List.flatMap_nil]
 |x::r=>by rw[gS,List.flatMap_cons,iF r]
theorem oA:∀l:List Item,kp l=l.flatMap Item.row
 | []=>by rw[kp,List.flatMap_nil]
 |x::r=>by rw[kp,List.flatMap_cons,oA r]
theorem mC:∀l:List Query,j9 l=l.flatMap Query.row
 | []=>by rw[j9,List.flatMap_nil]
 |x::r=>by rw[j9,List.flatMap_cons,mC r]
theorem kq:∀l:List SortKey,ge l=l.flatMap SortKey.row
 | []=>by rw[ge,List.flatMap_nil]
 |x::r=>by rw[ge,List.flatMap_cons,kq r]
theorem lL:∀l:List Source,gU l=l.flatMap Source.row
 | []=>by rw[gU,List.flatMap_nil]
 |x::r=>by rw[gU,List.flatMap_cons,lL r]
theorem Expr.row_mk (kind:Int) (op:Int) (not:Bool) (val:Val) (qual:ByteArray) (name:ByteArray) (kids:List Expr) (sub:List Query):(Expr.mk kind op not val qual name kids sub).row=int kind::int op::bool not::int val.kind::int val.num::str val.text::str qual::str name :: .sl kids.length (kids.flatMap Expr.row) :: .sl sub.length (sub.flatMap Query.row)::[]:=by rw[Expr.row,iF,mC]
theorem Item.row_mk (star:Bool) (qual:ByteArray) (e:Expr) (as_:ByteArray):(Item.mk star qual e as_).row=bool star::str qual::(e.row++str as_::[]):=by rw[Item.row]
theorem Source.row_mk (table:ByteArray) (as_:ByteArray) (on:List Expr):(Source.mk table as_ on).row=str table::str as_ :: .sl on.length (on.flatMap Expr.row)::[]:=by rw[Source.row,iF]
theorem SortKey.row_mk (e:Expr) (desc:Bool):(SortKey.mk e desc).row=(e.row++bool desc::[]):=by rw[SortKey.row]
theorem Query.row_mk (distinct:Bool) (items:List Item) (from_:List Source) (where_:List Expr) (order:List SortKey) (limit:Int):(Query.mk distinct items from_ where_ order limit).row=bool distinct :: .sl items.length (items.flatMap Item.row) :: .sl from_.length (from_.flatMap Source.row) :: .sl where_.length (where_.flatMap Expr.row) :: .sl order.length (order.flatMap SortKey.row)::int limit::[]:=by rw[Query.row,iF,oA,kq,lL]
theorem Expr.row_len (x:Expr):x.row.length=10:=by cases x;simp [Expr.row]
theorem Expr.tk (x:Expr) (r:List D):eH 10 (x.row++r)=some x.row:=dw (Expr.row_len x)
theorem Expr.ne (x:Expr) (r:List D):x.row++r≠[]:=fun h=>by have:=congrArg List.length h;simp [Expr.row_len] at this
theorem Source.row_len (x:Source):x.row.length=3:=by cases x;simp [Source.row]
theorem Source.ne (x:Source) (r:List D):x.row++r≠[]:=fun h=>by have:=congrArg List.length h;simp [Source.row_len] at this
theorem Query.row_len (x:Query):x.row.length=6:=by cases x;simp [Query.row]
theorem Query.tk (x:Query) (r:List D):eH 6 (x.row++r)=some x.row:=dw (Query.row_len x)
theorem Query.ne (x:Query) (r:List D):x.row++r≠[]:=fun h=>by have:=congrArg List.length h;simp [Query.row_len] at this
theorem Item.row_len (x:Item):x.row.length=13:=by cases x;simp [Item.row,Expr.row_len]
theorem Item.tk (x:Item) (r:List D):eH 13 (x.row++r)=some x.row:=dw (Item.row_len x)
theorem Item.ne (x:Item) (r:List D):x.row++r≠[]:=fun h=>by have:=congrArg List.length h;simp [Item.row_len] at this
theorem SortKey.row_len (x:SortKey):x.row.length=11:=by cases x;simp [SortKey.row,Expr.row_len]
theorem SortKey.ne (x:SortKey) (r:List D):x.row++r≠[]:=fun h=>by have:=congrArg List.length h;simp [SortKey.row_len] at this
mutual
def szExpr:Expr->Nat
 |.mk kind op not val qual name kids sub=>lJ val+(qual.size+(name.size+(cx kids+(gW sub))))
def gV:Item->Nat
 |.mk star qual e as_=>qual.size+(szExpr e+(as_.size))
def cA:Source->Nat
 |.mk table as_ on=>table.size+(as_.size+(cx on))
def dV:SortKey->Nat
 |.mk e desc=>szExpr e
def szQuery:Query->Nat
 |.mk distinct items from_ where_ order limit=>iG items+(cR from_+(cx where_+(ed order)))
def cx:List Expr->Nat
 | []=>0
 |x::r=>szExpr x+1+cx r
def iG:List Item->Nat
 | []=>0
 |x::r=>gV x+1+iG r
def gW:List Query->Nat
 | []=>0
 |x::r=>szQuery x+1+gW r
def ed:List SortKey->Nat
 | []=>0
 |x::r=>dV x+1+ed r
def cR:List Source->Nat
 | []=>0
 |x::r=>cA x+1+cR r
end
theorem aC:∀l:List Expr,cx l=l.length+(l.map szExpr).sum
 | []=>by rw[cx];rfl
 |x::r=>by rw[cx,aC r,List.length_cons,List.map_cons,List.sum_cons];omega
theorem cU:∀l:List Item,iG l=l.length+(l.map gV).sum
 | []=>by rw[iG];rfl
 |x::r=>by rw[iG,cU r,List.length_cons,List.map_cons,List.sum_cons];omega
theorem bw:∀l:List Query,gW l=l.length+(l.map szQuery).sum
 | []=>by rw[gW];rfl
 |x::r=>by rw[gW,bw r,List.length_cons,List.map_cons,List.sum_cons];omega
theorem bN:∀l:List SortKey,ed l=l.length+(l.map dV).sum
 | []=>by rw[ed];rfl
 |x::r=>by rw[ed,bN r,List.length_cons,List.map_cons,List.sum_cons];omega
theorem bX:∀l:List Source,cR l=l.length+(l.map cA).sum
 | []=>by rw[cR];rfl
 |x::r=>by rw[cR,bX r,List.length_cons,List.map_cons,List.sum_cons];omega
theorem bQ (kind:Int) (op:Int) (not:Bool) (val:Val) (qual:ByteArray) (name:ByteArray) (kids:List Expr) (sub:List Query):szExpr (.mk kind op not val qual name kids sub)=lJ val+(qual.size+(name.size+(cx kids+(gW sub)))):=by rw[szExpr]
theorem ja (star:Bool) (qual:ByteArray) (e:Expr) (as_:ByteArray):gV (.mk star qual e as_)=qual.size+(szExpr e+(as_.size)):=by rw[gV]
theorem dF (table:ByteArray) (as_:ByteArray) (on:List Expr):cA (.mk table as_ on)=table.size+(as_.size+(cx on)):=by rw[cA]
theorem gH (e:Expr) (desc:Bool):dV (.mk e desc)=szExpr e:=by rw[dV]
theorem cV (distinct:Bool) (items:List Item) (from_:List Source) (where_:List Expr) (order:List SortKey) (limit:Int):szQuery (.mk distinct items from_ where_ order limit)=iG items+(cR from_+(cx where_+(ed order))):=by rw[szQuery]
structure Tok where
 kind:Int
 text:ByteArray
 at_:Int
def Tok.row (t:Tok):List D:=[int t.kind,str t.text,int t.at_]
theorem Tok.row_len (t:Tok):t.row.length=3:=rfl
theorem Tok.tk (t:Tok) (r:List D):eH 3 (t.row++r)=some t.row:=dw rfl
theorem Tok.ne (t:Tok) (r:List D):t.row++r≠[]:=fun h=>by cases h
def signs:List ByteArray:=[⟨#[40]⟩,⟨#[41]⟩,⟨#[44]⟩,⟨#[46]⟩,⟨#[42]⟩,⟨#[43]⟩,⟨#[45]⟩,⟨#[47]⟩,⟨#[37]⟩,⟨#[61]⟩,⟨#[60,62]⟩,⟨#[60]⟩,⟨#[60,61]⟩,⟨#[62]⟩,⟨#[62,61]⟩,⟨#[124,124]⟩]
def fp (s:ByteArray):Bool:=signs.any fun x=>decide (s=x)
theorem ub (s:ByteArray):Cl Tryz.prog 250 [vs s] [] fun r _=>r=vb (fp s):=by
 refine ah ab false Tryz.func250 rfl (by kernel_rfl) ?_
 simp only[Tryz.f250,tt,seval]
 all_goals repeat' first|(refine aa (fun h=>?_) (fun h=>?_)<;>try simp only[tt,seval])|(intro _;try simp only[tt,seval])
 all_goals first|contradiction|exact⟨_,_,aF (by simp [fp,signs, *]),ak rfl⟩
theorem xg:Cl Tryz.prog 298 [] [] fun r _=>r = .c (.sl 16 (signs.flatMap srow) none):=by
 refine ah ab false Tryz.func298 rfl (by kernel_rfl) ?_
 simp only[tt,seval,Tryz.f298]
 refine⟨_,[],rfl,ai ?_⟩
 simp only[tt,seval,signs,srow]
theorem yN (s:ByteArray):decide (0<=my s signs)=fp s:=by
 unfold my fp
 by_cases h:signs.findIdx (fun w=>decide (w=s))<signs.length
 ·rw[if_pos h]
  have:=List.findIdx_getElem (w:=h)
  have hm:=aK h
  refine (av (by omega)).trans (Eq.symm ?_)
  rw[List.any_eq_true]
  exact⟨_,hm,by simpa [eq_comm] using this⟩
 ·rw[if_neg h]
  refine (au (by omega)).trans (Eq.symm ?_)
  rw[List.any_eq_false]
  intro x hx
  have:=List.findIdx_lt_length (xs:=signs) (p:=fun w=>decide (w=s))
  simp only[h,false_iff,not_exists,not_and] at this
  simpa [eq_comm] using this x hx
theorem vU (s:ByteArray):Cl Tryz.prog 302 [.c (.sl 16 (signs.flatMap srow) none),vs s] [] fun r _=>r=vb (fp s):=by
 refine ah ab false Tryz.func302 rfl (by kernel_rfl) ?_
 simp only[Tryz.f302,tt,seval]
 refine cZ (xd signs s) ?_ ?_<;>simp only[tt,seval,show signs.length=16 from rfl]
 exact⟨_,_,aF (by rw[<-yN]),ak rfl⟩
theorem yO (s:ByteArray):Cl Tryz.prog 254 [vs s] [] fun r _=>r=vb (fp s):=by
 refine ah ab false Tryz.func254 rfl (by kernel_rfl) ?_
 simp only[Tryz.f254,tt,seval]
 refine cZ (xg) ?_ ?_<;>simp only[tt,seval]
 refine cZ (vU s) ?_ ?_<;>simp only[tt,seval]
 exact⟨_,_,rfl,ak rfl⟩
def DO:List ByteArray:=⟨#[]⟩::[⟨#[79,82]⟩,⟨#[65,78,68]⟩,⟨#[61]⟩,⟨#[60,62]⟩,⟨#[60]⟩,⟨#[60,61]⟩,⟨#[62]⟩,⟨#[62,61]⟩,⟨#[124,124]⟩,⟨#[43]⟩,⟨#[45]⟩,⟨#[42]⟩,⟨#[47]⟩,⟨#[37]⟩,⟨#[78,79,84]⟩,⟨#[45]⟩]
def qW (k:Int):ByteArray:=if 1<=k/\k<=16 then DO.getD k.toNat ⟨#[]⟩ else ⟨#[]⟩
def kw (k:Nat):ByteArray:=kl.getD k ⟨#[]⟩
end Go.Proofs.YtbodcedhmccenaaGreatDoor
set_option maxRecDepth 8000
namespace Go.Proofs.YtbodcedhmccenaaGreatDoor
open Go Go.Dv
open Go.Vc (D d5 d6 cM bo)
open Go.RowKit (Below)
theorem rv (k:Nat) (h1:1<=k) (h2:k<=28):Cl Tryz.prog 228 [vi k] [] fun r _=>r=vs (kw k):=by
 refine ah ab false Tryz.func228 rfl (by kernel_rfl) ?_
 simp only[Tryz.f228,tt,seval]
 refine cZ (dh k 1 28) ?_ ?_<;>simp only[tt,seval]
 simp only[tt,seval,av (show (1:Int)<=k/\(k:Int)<=28 by omega)]
 refine cZ (nF) ?_ ?_<;>simp only[tt,seval]
 have hlt:k<kl.length:=by show _<29;omega
 refine⟨by omega,by omega,_,aE eK (az hlt),l6 _ _,?_⟩
 simp only[tt,seval,srow]
 exact⟨_,_,pg (by rw[kw,List.getD_eq_getElem?_getD,az hlt];rfl),ak rfl⟩
theorem Ck:([.lit (.string ⟨#[]⟩),.lit (.string ⟨#[79,82]⟩),.lit (.string ⟨#[65,78,68]⟩),.lit (.string ⟨#[61]⟩),.lit (.string ⟨#[60,62]⟩),.lit (.string ⟨#[60]⟩),.lit (.string ⟨#[60,61]⟩),.lit (.string ⟨#[62]⟩),.lit (.string ⟨#[62,61]⟩),.lit (.string ⟨#[124,124]⟩),.lit (.string ⟨#[43]⟩),.lit (.string ⟨#[45]⟩),.lit (.string ⟨#[42]⟩),.lit (.string ⟨#[47]⟩),.lit (.string ⟨#[37]⟩),.lit (.string ⟨#[78,79,84]⟩),.lit (.string ⟨#[45]⟩)]:List D)=DO.flatMap srow:=rfl
theorem A4:([.lit (.string ⟨#[79,82]⟩),.lit (.string ⟨#[65,78,68]⟩),.lit (.string ⟨#[61]⟩),.lit (.string ⟨#[60,62]⟩),.lit (.string ⟨#[60]⟩),.lit (.string ⟨#[60,61]⟩),.lit (.string ⟨#[62]⟩),.lit (.string ⟨#[62,61]⟩),.lit (.string ⟨#[124,124]⟩),.lit (.string ⟨#[43]⟩),.lit (.string ⟨#[45]⟩),.lit (.string ⟨#[42]⟩),.lit (.string ⟨#[47]⟩),.lit (.string ⟨#[37]⟩),.lit (.string ⟨#[78,79,84]⟩),.lit (.string ⟨#[45]⟩)]:List D)=DO.tail.flatMap srow:=rfl
theorem mD (k:Int):Cl Tryz.prog 263 [vi k] [] fun r _=>r=vs (qW k):=by
 refine ah ab false Tryz.func263 rfl (by kernel_rfl) ?_
 simp only[Tryz.f263,tt,seval]
 refine cZ (dh k 1 16) ?_ ?_<;>simp only[tt,seval]
 refine aa (fun hc=>?_) (fun hc=>?_)
 ·exact⟨_,_,pg (by rw[qW,if_neg (by simpa only[Bool.not_eq_true',decide_eq_false_iff_not] using hc)]),ak rfl⟩
 ·have hc:1<=k/\k<=16:=by simpa only[Bool.not_eq_false',decide_eq_true_eq] using hc
  have hlt:k.toNat<DO.length:=by show _<17;omega
  refine⟨by omega,by omega,?_⟩
  rw[Ck,aE eK (az hlt)]
  simp only[tt,seval,srow]
  exact⟨_,_,pg (by rw[qW,if_pos hc,List.getD_eq_getElem?_getD,az hlt];rfl),ak rfl⟩
theorem nK (k:Int):Cl Tryz.prog 276 [vi k] [] fun r _=>r=vs (qW k):=by
 refine ah ab false Tryz.func276 rfl (by kernel_rfl) ?_
 simp only[Tryz.f276,tt,seval]
 by_cases h1:k<1
 ·simp only[tt,seval,av h1]
  exact⟨_,_,pg (by rw[qW,if_neg (by omega)]),ak rfl⟩
 ·simp only[tt,seval,au h1]
  refine aa (fun h2=>?_) (fun h2=>?_)
  ·exact⟨_,_,pg (by rw[qW,if_neg (by omega)]),ak rfl⟩
  ·have hc:1<=k/\k<=16:=by omega
   have hlt:(k-1).toNat<DO.tail.length:=by show _<16;omega
   rw[aq (n:=k-1) (by omega) (by omega)]
   refine⟨by omega,by omega,?_⟩
   rw[A4,aE eK (az hlt)]
   simp only[tt,seval,srow]
   have hlt':k.toNat<DO.length:=by show _<17;omega
   refine⟨_,_,pg ?_,ak rfl⟩
   rw[qW,if_pos hc,List.getD_eq_getElem?_getD,az hlt']
   simp only[List.getElem_tail,Option.getD_some,show (k-1).toNat+1=k.toNat by omega]
theorem xh:Tryz.prog.underlying 166=some (.interface (Tryz.prog.methodsAt 166)):=by kernel_rfl
theorem Cm {n:Nat} {d:Option Nat} {K:K0} {f:Rg} {L:Ob} {p:Po} {x:Operand}:bL Tryz.prog n d (do eqGuard .neq 166 x (.const .nilIface) .nilIface .nilIface;binOp .neq 166 .nilIface .nilIface) K f L p=K (put n f d (.c (.v (.bool false)))) L p:=
 bb (fun w=>by rw[Sem.run_bind];simp [eqGuard,run_neq_nil_nil w 166 xh]) trivial
theorem DP {n:Nat} {d:Option Nat} {K:K0} {f:Rg} {L:Ob} {p:Po} {x y:Operand} {u:TypeId} {v:Value}:bL Tryz.prog n d (do eqGuard .neq 166 x y (.iface u v) .nilIface;binOp .neq 166 (.iface u v) .nilIface) K f L p=K (put n f d (.c (.v (.bool true)))) L p:=
 bb (fun w=>by rw[Sem.run_bind];simp [eqGuard,run_neq_held_nil w 166 u v xh]) trivial
theorem Cn {w:World} {own:Nat->Prop} (h:GlW w own):(∃v,w.cell? ⟨1,0,none⟩=some v/\(v = .nilIface∨∃t p,v = .iface t p))/\(∃v,w.cell? ⟨2,0,none⟩=some v/\(v = .nilIface∨∃t p,v = .iface t p)):=by
 constructor
 ·obtain⟨_,cs,ty,lh,h2,v,h3,h4⟩:=h _ (List.mem_cons_of_mem _ (List.mem_cons_of_mem _ (List.mem_cons_self)))
  exact⟨v,by simp only[World.cell?,h2];exact h3,h4⟩
 ·obtain⟨_,cs,ty,lh,h2,v,h3,h4⟩:=h _ (List.mem_cons_of_mem _ (List.mem_cons_of_mem _ (List.mem_cons_of_mem _ (List.mem_cons_self))))
  exact⟨v,by simp only[World.cell?,h2];exact h3,h4⟩
def Ey (s:ByteArray) (r:S):Prop:=∃n e,r = .tu [([.v (.int .i64 n)],true),([.v e],true)]/\((e = .nilIface/\Lib.atoiAll s.data.toList = .ok n)∨((∃t p,e = .iface t p)/\∀v,Lib.atoiAll s.data.toList ≠ .ok v))
theorem DQ (s:ByteArray) (hs:s.size<=1048576):Cl Tryz.prog 301 [vs s] [] fun r _=>Ey s r:=
 Cl.ofNew (by kernel_rfl) [.string s] fun w hg=>by
  obtain⟨⟨ev,h4,h4'⟩,⟨ev',h5,h5'⟩⟩:=Cn hg
  rcases ha:Lib.atoiAll s.data.toList with v|_|_
  ·skip
   refine (Any.strconv_Atoi_ok Tryz.laysC172 s (by omega) v ha w).mono ?_
   rintro e w' ⟨rfl,hw⟩
   refine⟨_,.tu [([.v (.int .i64 v)],true),([.v .nilIface],true)],rfl,⟨v,_,rfl,.inl ⟨rfl,ha⟩⟩,rfl,fun β=>⟨_,rfl,⟨⟨rfl,trivial⟩,trivial⟩,⟨⟨rfl,trivial⟩,trivial⟩,trivial⟩,?_⟩
   rcases hw with rfl|⟨t,rfl⟩
   ·exact Below.refl _ _
   ·exact Lib.bytesWorld_below _ _ _
  ·refine (Any.strconv_Atoi_syntax Tryz.laysC172 s (by omega) ha ev w h4 h4').mono ?_
   rintro e w' ⟨N,rfl,_,_,hb⟩
   exact⟨_,.tu [([.v (.int .i64 _)],true),([.v (.iface _ _)],true)],rfl,⟨_,_,rfl,.inr ⟨⟨_,_,rfl⟩,fun v h=>by rw[ha] at h;cases h⟩⟩,rfl,fun β=>⟨_,rfl,⟨⟨rfl,trivial⟩,trivial⟩,⟨⟨rfl,trivial⟩,trivial⟩,trivial⟩,hb⟩
  ·refine (Any.strconv_Atoi_range Tryz.laysC172 s (by omega) ha ev' w h5 h5').mono ?_
   rintro e w' ⟨N,rfl,_,_,hb⟩
   exact⟨_,.tu [([.v (.int .i64 _)],true),([.v (.iface _ _)],true)],rfl,⟨_,_,rfl,.inr ⟨⟨_,_,rfl⟩,fun v h=>by rw[ha] at h;cases h⟩⟩,rfl,fun β=>⟨_,rfl,⟨⟨rfl,trivial⟩,trivial⟩,⟨⟨rfl,trivial⟩,trivial⟩,trivial⟩,hb⟩
def mE (s:ByteArray):Bool:=(iW s.data.toList).isSome
def jD (s:ByteArray):Int:=((iW s.data.toList).getD 0:Nat)
def lC (s:ByteArray):S:=.tu [([.v (.int .i64 (jD s))],true),([.v (.bool (mE s))],true)]
theorem rx (s:ByteArray) (hs:s.size<=1048576):Cl Tryz.prog 253 [vs s] [] fun r _=>r=lC s:=by
 refine ah ab false Tryz.func253 rfl (by kernel_rfl) ?_
 simp only[Tryz.f253,tt,seval]
 refine eb (DQ s hs) ?_ ?_ ?_
 ·decide
 ·simp only[tt,seval]
 rintro r ⟨n,e,rfl,hh⟩
 simp only[tt,seval]
 rcases hh with⟨rfl,ha⟩|⟨⟨tt',pp,rfl⟩,hne⟩
 ·rw[Cm]
  simp only[tt,seval]
  have hb:=Lib.atoiAll_bounds ha
  by_cases hn:n<0
  ·simp only[tt,seval,av hn]
   have hno:iW s.data.toList=none:=by
    cases hc:iW s.data.toList with
    |none=>rfl
    |some m=>have:=nJ hc;rw[ha] at this;injection this;omega
   exact⟨_,_,by rw[lC,jD,mE,hno];rfl,ak rfl⟩
  ·simp only[tt,seval,au hn]
   refine cZ (yL n (by omega) (by omega)) ?_ ?_<;>simp only[tt,seval]
   refine aa (fun he=>?_) (fun he=>?_)
   ·have he':¬fo n=s:=by simpa only[Bool.not_eq_true',decide_eq_false_iff_not] using he
    have hno:iW s.data.toList=none:=by
     cases hc:iW s.data.toList with
     |none=>rfl
     |some m=>
      have h1:=nJ hc
      obtain⟨_,h2⟩:=f7.1 hc
      rw[ha] at h1
      injection h1 with h1
      refine absurd (nH ?_) he'
      rw[fo,h1,pF,h2]
    exact⟨_,_,by rw[lC,jD,mE,hno];rfl,ak rfl⟩
   ·have he':fo n=s:=by simpa only[Bool.not_eq_false',decide_eq_true_eq] using he
    have hc:=yM ha (by omega) (by rw[<-he'];rfl)
    exact⟨_,_,by rw[lC,jD,mE,hc];simp only[Option.getD_some,Option.isSome_some,Int.toNat_of_nonneg (show 0<=n by omega)],ak rfl⟩
 ·rw[DP]
  simp only[tt,seval]
  have hno:iW s.data.toList=none:=by
   cases hc:iW s.data.toList with
   |none=>rfl
   |some m=>exact absurd (nJ hc) (hne _)
  exact⟨_,_,by rw[lC,jD,mE,hno];rfl,ak rfl⟩
theorem mF (s:ByteArray) (hs:s.size<=1048576):Cl Tryz.prog 233 [vs s] [] fun r _=>r=lC s:=by
 obtain⟨l,hl⟩:∃l,l=s.data.toList:=⟨_,rfl⟩
 have hll:l.length=s.size:=by rw[hl];exact aD s
 refine ah ab false Tryz.func233 rfl (by kernel_rfl) ?_
 simp only[Tryz.f233,tt,seval]
 refine fun _=>?_
 have none_of (h:iW l=none):lC s = .tu [([.v (.int .i64 0)],true),([.v (.bool false)],true)]:=by rw[lC,jD,mE,<-hl,h];rfl
 have fin0 (h:iW l=none) {L:Ob} {p:Po}:∃r objs,r=lC s/\EndOk L p (.tu [([.v (.int .i64 0)],true),([.v (.bool false)],true)]) r 0 objs:=⟨_,[],rfl,by rw[none_of h];exact ak rfl⟩
 by_cases hs1:(s.size:Int)<1
 ·simp only[tt,seval,av hs1]
  exact fin0 (by
   cases hc:iW l with
   |none=>rfl
   |some m=>
    obtain⟨_,h2⟩:=f7.1 hc
    obtain⟨b,r,h3,_⟩:=ko m
    have:l.length=0:=by omega
    rw[<-h2,h3] at this;simp at this)
 ·simp only[tt,seval,au hs1]
  refine fun _=>aa (fun hs2=>?_) (fun hs2=>?_)
  ·exact fin0 (by
    cases hc:iW l with
    |none=>rfl
    |some m=>
     obtain⟨h1,h2⟩:=f7.1 hc
     have:=eL m 18 (by omega)
     rw[h2] at this;omega)
  ·skip
   refine dLoop.intro (fun f' L p=>∃i n:Nat,f' 5=vi i/\f' 4=vi n/\i<=l.length/\Lib.decFrom 0 (l.take i)=some n/\n<=9223372036854775807/\L=[]/\p=none) (fun f' _ _=>(s.size-bq (f' 5)).toNat) [] none ⟨al _,an _,?_⟩ ?_
   ·simp only[tt,seval]
    exact⟨0,0,rfl,rfl,by omega,rfl,by omega⟩
   ·rintro g L p ⟨i,n,h5,h4,hi,hd,hn,rfl,rfl⟩
    simp only[tt,seval] at h5 h4
    simp only[tt,seval,h5,h4,Int.ofNat_lt]
    refine fun _=>aa (fun hlt=>?_) (fun hge=>?_)
    ·have hil:i<l.length:=by omega
     have hget:l[i]?=some l[i]:=az hil
     rw[cv hl hil]
     simp only[tt,seval]
     have dn (h:¬(48<=l[i].toNat/\l[i].toNat<=57)):iW l=none:=by
      unfold iW
      rw[sF hget (by unfold Lib.digitVal;rw[if_neg h]) 0]
     by_cases hb:(l[i].toNat:Int)<48
     ·simp only[tt,seval,av hb]
      exact fin0 (dn (by omega))
     ·simp only[tt,seval,au hb,h5]
      rw[cv hl hil]
      simp only[tt,seval,h5]
      refine aa (fun hb2=>?_) (fun hb2=>?_)
      ·exact fin0 (dn (by omega))
      ·try simp only[tt,seval,h5,h4]
       rw[cv hl hil]
       simp only[tt,seval,h5,h4]
       have hbb:48<=l[i].toNat/\l[i].toNat<=57:=by omega
       obtain⟨d,hd48⟩:∃d:Nat,l[i].toNat=48+d:=⟨l[i].toNat-48,by omega⟩
       have hd9:d<=9:=by omega
       have hdv:Lib.digitVal l[i]=some d:=by unfold Lib.digitVal;rw[if_pos hbb,hd48];congr 1;omega
       have hsn:Lib.decFrom 0 (l.take (i+1))=some (n*10+d):=by rw[List.take_succ_eq_append_getElem hil,gG,hd,hdv]
       rw[hd48,aq (n:=((48+d:Nat):Int)) (by omega) (by omega),aq (n:=((48+d:Nat):Int)-48) (by omega) (by omega),aq (n:=9223372036854775807-(((48+d:Nat):Int)-48)) (by omega) (by omega)]
       have ht:(9223372036854775807-(((48+d:Nat):Int)-48)).tdiv 10=(((9223372036854775807-d) / 10:Nat):Int):=by
        rw[Int.tdiv_eq_ediv_of_nonneg (by omega)];omega
       rw[ht,aq (n:=(((9223372036854775807-d) / 10:Nat):Int)) (by omega) (by omega)]
       refine aa (fun ho=>?_) (fun ho=>?_)
       ·exact fin0 (by
         cases hc:iW l with
         |none=>rfl
         |some m=>
          obtain⟨h1,h2⟩:=f7.1 hc
          have hm:=gR m
          rw[h2] at hm
          have hsp:∀(a b:List UInt8) (acc:Nat),Lib.decFrom acc (a++b)=(Lib.decFrom acc a).bind fun x=>Lib.decFrom x b:=by
           intro a
           induction a with
           |nil=>intro b acc;rfl
           |cons c r ih=>
            intro b acc
            simp only[List.cons_append,Lib.decFrom]
            cases Lib.digitVal c with
            |none=>rfl
            |some d=>exact ih b _
          have:=hsp (l.take (i+1)) (l.drop (i+1)) 0
          rw[List.take_append_drop,hm,hsn] at this
          have:=lW _ _ _ this.symm
          omega)
       ·rw[aq (n:=10*(n:Int)) (by omega) (by omega),aq (n:=10*(n:Int)+(((48+d:Nat):Int)-48)) (by omega) (by omega),aq (n:=(i:Int)+1) (by omega) (by omega)]
        exact⟨[],none,al _,an _,⟨i+1,n*10+d,by simp,kh (by omega),by omega,hsn,by omega,rfl,rfl⟩,by simp only[bq];omega⟩
    ·have:i=l.length:=by omega
     subst this
     rw[List.take_length] at hd
     refine cZ (mA n (by omega) (by omega)) ?_ ?_<;>simp only[tt,seval,h4]
     refine aa (fun he=>?_) (fun he=>?_)
     ·have he':¬fo n=s:=by simpa only[Bool.not_eq_true',decide_eq_false_iff_not] using he
      exact fin0 (by
       unfold iW
       rw[hd]
       refine if_neg fun hc=>he' (nH ?_)
       rw[fo,pF,hc.2,hl])
     ·have he':fo n=s:=by simpa only[Bool.not_eq_false',decide_eq_true_eq] using he
      have hc:iW l=some n:=f7.2 ⟨by omega,by rw[<-pF,hl,<-he'];rfl⟩
      exact⟨_,_,by rw[lC,jD,mE,<-hl,hc];rfl,ak rfl⟩
end Go.Proofs.YtbodcedhmccenaaGreatDoor
set_option maxRecDepth 8000
namespace Go.Proofs.YtbodcedhmccenaaGreatDoor
open Go Go.Dv
open Go.Vc (D d5 d6 cM bo)
def bg (t:Tok):Bool:=if t.kind=1 then (decide (¬lK t.text=0)&&decide (bW t.text=t.text)) else if t.kind=2 then decide (1<=t.text.size/\t.text.size<=20) else if t.kind=3 then mE t.text else if t.kind=4 then decide (t.text.size<=40) else if t.kind=5 then fp t.text else false
theorem cG (t:Tok) (hs:t.text.size<=1048576):Cl Tryz.prog 204 [.ag (ar t.row)] [] fun r _=>r=vb (bg t):=by
 rw[Tok.row]
 refine ah ab false Tryz.func204 rfl (by kernel_rfl) ?_
 simp only[Tryz.f204,tt,seval]
 refine aa (fun h1=>?_) (fun h1=>?_)
 ·skip
  refine dDrawn.intro [] (iO [0,2,5,6,8,10,12,16,18,15,20,22,24]) (by kernel_rfl) ?_
  simp only[tt,seval]
  refine cZ (sC t.text hs) ?_ ?_<;>simp only[tt,seval]
  have hk:=sE t.text
  have hgt:decide ((0:Int)<lK t.text)=decide (¬lK t.text=0):=by rw[decide_eq_decide];omega
  by_cases hz:lK t.text=0
  ·simp only[tt,seval,hgt,au (not_not_intro hz)]
   exact⟨_,_,aF (by rw[bg,if_pos h1,au (not_not_intro hz)];rfl),ak rfl⟩
  ·simp only[tt,seval,hgt,av hz]
   refine cZ (pz t.text hs) ?_ ?_<;>simp only[tt,seval]
   exact⟨_,_,aF (by rw[bg,if_pos h1,av hz];rfl),ak rfl⟩
 ·try simp only[tt,seval]
  refine aa (fun h2=>?_) (fun h2=>?_)
  ·skip
   refine cZ (j7 t.text) ?_ ?_<;>simp only[tt,seval]
   exact⟨_,_,aF (by rw[bg,if_neg h1,if_pos h2]),ak rfl⟩
  ·try simp only[tt,seval]
   refine aa (fun h3=>?_) (fun h3=>?_)
   ·skip
    refine cZ (mF t.text hs) ?_ ?_<;>simp only[tt,seval,lC]
    exact⟨_,_,aF (by rw[bg,if_neg h1,if_neg h2,if_pos h3]),ak rfl⟩
   ·try simp only[tt,seval]
    refine aa (fun h4=>?_) (fun h4=>?_)
    ·try simp only[tt,seval]
     refine fun _=>?_
     exact⟨_,_,aF (by rw[bg,if_neg h1,if_neg h2,if_neg h3,if_pos h4];simp only[decide_eq_decide];omega),ak rfl⟩
    ·try simp only[tt,seval]
     refine aa (fun h5=>?_) (fun h5=>?_)
     ·skip
      refine cZ (ub t.text) ?_ ?_<;>simp only[tt,seval]
      exact⟨_,_,aF (by rw[bg,if_neg h1,if_neg h2,if_neg h3,if_neg h4,if_pos h5]),ak rfl⟩
     ·exact⟨_,_,aF (by rw[bg,if_neg h1,if_neg h2,if_neg h3,if_neg h4,if_neg h5]),ak rfl⟩
theorem dj (t:Tok) (hs:t.text.size<=1048576):Cl Tryz.prog 149 [.ag (ar t.row)] [] fun r _=>r=vb (bg t):=by
 rw[Tok.row]
 refine ah ab false Tryz.func149 rfl (by kernel_rfl) ?_
 simp only[Tryz.f149,tt,seval]
 refine aa (fun h1=>?_) (fun h1=>?_)
 ·skip
  refine dDrawn.intro [] (iO [0,2,5,6,8,10,12,16,18,15,20,22,24]) (by kernel_rfl) ?_
  simp only[tt,seval]
  refine cZ (pB t.text hs) ?_ ?_<;>simp only[tt,seval]
  have hk:=sE t.text
  have hgt:True:=trivial
  by_cases hz:lK t.text=0
  ·simp only[tt,seval,av hz]
   exact⟨_,_,aF (by rw[bg,if_pos h1,au (not_not_intro hz)];rfl),ak rfl⟩
  ·simp only[tt,seval,au hz]
   refine cZ (ph t.text hs) ?_ ?_<;>simp only[tt,seval]
   exact⟨_,_,aF (by rw[bg,if_pos h1,av hz];rfl),ak rfl⟩
 ·try simp only[tt,seval]
  refine aa (fun h2=>?_) (fun h2=>?_)
  ·skip
   refine cZ (j8 t.text) ?_ ?_<;>simp only[tt,seval]
   exact⟨_,_,aF (by rw[bg,if_neg h1,if_pos h2]),ak rfl⟩
  ·try simp only[tt,seval]
   refine aa (fun h3=>?_) (fun h3=>?_)
   ·skip
    refine cZ (rx t.text hs) ?_ ?_<;>simp only[tt,seval,lC]
    exact⟨_,_,aF (by rw[bg,if_neg h1,if_neg h2,if_pos h3]),ak rfl⟩
   ·try simp only[tt,seval]
    refine aa (fun h4=>?_) (fun h4=>?_)
    ·try simp only[tt,seval]
     refine fun _=>?_
     exact⟨_,_,aF (by rw[bg,if_neg h1,if_neg h2,if_neg h3,if_pos h4];simp only[decide_eq_decide];omega),ak rfl⟩
    ·try simp only[tt,seval]
     refine aa (fun h5=>?_) (fun h5=>?_)
     ·skip
      refine cZ (yO t.text) ?_ ?_<;>simp only[tt,seval]
      exact⟨_,_,aF (by rw[bg,if_neg h1,if_neg h2,if_neg h3,if_neg h4,if_pos h5]),ak rfl⟩
     ·exact⟨_,_,aF (by rw[bg,if_neg h1,if_neg h2,if_neg h3,if_neg h4,if_neg h5]),ak rfl⟩
theorem A5 {s:ByteArray} (h:fp s=true):0<s.size:=by
 simp only[fp,signs,List.any_cons,List.any_nil,Bool.or_false,Bool.or_eq_true,decide_eq_true_eq] at h
 rcases h with h|h|h|h|h|h|h|h|h|h|h|h|h|h|h|h<;>(rw[h];decide)
def gg (t:Tok):ByteArray:=if bg t=false then ⟨#[]⟩ else if t.kind=2 then rt t.text else if t.kind=4 then pC 39 t.text else t.text
def eE (t:Tok):Bool:=decide (t.kind=1)||(decide (t.kind=3)||(decide (t.kind=2)&&jB t.text))
def f8 (t:Tok):Bool:=decide (t.kind=2) && !jB t.text
def DR (a b:Tok):Bool:=
 if ¬a.kind=5 then false else if ¬b.kind=5 then false else
 if a.text=⟨#[45]⟩ then decide (b.text=⟨#[45]⟩) else if a.text=⟨#[47]⟩ then decide (b.text=⟨#[42]⟩) else
 if a.text=⟨#[60]⟩ then (decide (b.text.data.toList.headD 0=61)||decide (b.text.data.toList.headD 0=62)) else if a.text=⟨#[62]⟩ then decide (b.text.data.toList.headD 0=61) else false
def qX (a b:Tok):Bool:=if ((eE a&&eE b)||(f8 a&&f8 b)||(decide (a.kind=4)&&decide (b.kind=4)))=true then true else DR a b
def sG (a b:Tok):Bool:=if (!(bg a&&bg b))=true then false else qX a b
theorem gi (t:Tok) (hs:t.text.size<=1048576):Cl Tryz.prog 206 [.ag (ar t.row)] [] fun r _=>r=vs (gg t):=by
 rw[Tok.row]
 refine ah ab false Tryz.func206 rfl (by kernel_rfl) ?_
 simp only[Tryz.f206,tt,seval]
 refine cZ (cG t hs) ?_ ?_<;>simp only[tt,seval,Tok.row]
 refine aa (fun h=>?_) (fun h=>?_)
 ·have h:bg t=false:=by simpa only[Bool.not_eq_true'] using h
  exact⟨_,_,pg (by rw[gg,if_pos h]),ak rfl⟩
 ·have h:¬bg t=false:=by simpa only[Bool.not_eq_false',Bool.not_eq_false] using h
  refine aa (fun h2=>?_) (fun h2=>?_)
  ·skip
   refine cZ (vS t.text hs) ?_ ?_<;>simp only[tt,seval]
   exact⟨_,_,pg (by rw[gg,if_neg h,if_pos h2]),ak rfl⟩
  ·try simp only[tt,seval]
   refine aa (fun h4=>?_) (fun h4=>?_)
   ·skip
    refine cZ (ua t.text hs) ?_ ?_<;>simp only[tt,seval]
    exact⟨_,_,pg (by rw[gg,if_neg h,if_neg h2,if_pos h4]),ak rfl⟩
   ·exact⟨_,_,pg (by rw[gg,if_neg h,if_neg h2,if_neg h4]),ak rfl⟩
theorem pG (t:Tok) (hs:t.text.size<=1048576):Cl Tryz.prog 283 [.ag (ar t.row)] [] fun r _=>r=vb (eE t):=by
 rw[Tok.row]
 refine ah ab false Tryz.func283 rfl (by kernel_rfl) ?_
 simp only[Tryz.f283,tt,seval]
 by_cases h1:t.kind=1
 ·simp only[tt,seval,h1]
  exact⟨_,_,aF (by rw[eE,av h1];rfl),ak rfl⟩
 ·simp only[tt,seval,au h1]
  by_cases h3:t.kind=3
  ·simp only[tt,seval,h3]
   exact⟨_,_,aF (by rw[eE,av h3];simp),ak rfl⟩
  ·simp only[tt,seval,au h3]
   by_cases h2:t.kind=2
   ·simp only[tt,seval,av h2]
    refine cZ (km t.text hs) ?_ ?_<;>simp only[tt,seval]
    exact⟨_,_,aF (by rw[eE,au h1,au h3,av h2];rfl),ak rfl⟩
   ·simp only[tt,seval,au h2]
    exact⟨_,_,aF (by rw[eE,au h1,au h3,au h2];rfl),ak rfl⟩
theorem gX (t:Tok) (hs:t.text.size<=1048576):Cl Tryz.prog 284 [.ag (ar t.row)] [] fun r _=>r=vb (f8 t):=by
 rw[Tok.row]
 refine ah ab false Tryz.func284 rfl (by kernel_rfl) ?_
 simp only[Tryz.f284,tt,seval]
 by_cases h2:t.kind=2
 ·simp only[tt,seval,av h2]
  refine cZ (km t.text hs) ?_ ?_<;>simp only[tt,seval]
  exact⟨_,_,aF (by rw[f8,av h2];rfl),ak rfl⟩
 ·simp only[tt,seval,au h2]
  exact⟨_,_,aF (by rw[f8,au h2];rfl),ak rfl⟩
set_option maxHeartbeats 2000000 in
theorem vV (a b:Tok) (ha:a.text.size<=1048576) (hb:b.text.size<=1048576):Cl Tryz.prog 205 [.ag (ar a.row),.ag (ar b.row)] [] fun r _=>r=vb (sG a b):=by
 obtain⟨l,hl⟩:∃l,l=b.text.data.toList:=⟨_,rfl⟩
 have hll:l.length=b.text.size:=by rw[hl];exact aD b.text
 rw[Tok.row,Tok.row]
 refine ah ab false Tryz.func205 rfl (by kernel_rfl) ?_
 simp only[Tryz.f205,tt,seval]
 refine cZ (cG a ha) ?_ ?_<;>simp only[tt,seval,Tok.row]
 cases hoa:bg a with
 |false=>
  simp only[tt,seval]
  exact⟨_,_,aF (by simp only[sG,hoa,Bool.false_and,Bool.not_false,reduceIte]),ak rfl⟩
 |true=>
 simp only[tt,seval]
 refine cZ (cG b hb) ?_ ?_<;>simp only[tt,seval,Tok.row]
 cases hob:bg b with
 |false=>
  simp only[tt,seval]
  exact⟨_,_,aF (by simp only[sG,hoa,hob,Bool.and_false,Bool.not_false,reduceIte]),ak rfl⟩
 |true=>
 simp only[tt,seval]
 have g0:sG a b=qX a b:=by simp only[sG,hoa,hob,Bool.and_self,Bool.not_true,Bool.false_eq_true,reduceIte]
 refine cZ (pG a ha) ?_ ?_<;>simp only[tt,seval,Tok.row]
 have hw:(eE a&&eE b)=true->qX a b=true:=fun h=>by simp only[qX,h,Bool.true_or,reduceIte]
 have hq:(f8 a&&f8 b)=true->qX a b=true:=fun h=>by simp only[qX,h,Bool.true_or,Bool.or_true,reduceIte]
 have ht:(decide (a.kind=4)&&decide (b.kind=4))=true->qX a b=true:=fun h=>by simp only[qX,h,Bool.or_true,reduceIte]
 have he:(eE a&&eE b)=false->(f8 a&&f8 b)=false->(decide (a.kind=4)&&decide (b.kind=4))=false->qX a b=DR a b:=fun h1 h2 h3=>by simp only[qX,h1,h2,h3,Bool.or_self,Bool.false_eq_true,reduceIte]
 have hpos (h5:b.kind=5):0<l.length:=by
  have:fp b.text=true:=by rw[bg,if_neg (by omega),if_neg (by omega),if_neg (by omega),if_neg (by omega),if_pos h5] at hob;exact hob
  have:=A5 this
  omega
 have heq (hl0:0<l.length) (n:UInt8):decide (b.text.data.toList.headD 0=n)=decide ((l[0].toNat:Int)=n.toNat):=by
  rw[<-hl,decide_eq_decide]
  have:l.headD 0=l[0]:=by cases l with|nil=>exact absurd hl0 (Nat.lt_irrefl _)|cons x r=>rfl
  rw[this,<-UInt8.toNat_inj];omega
 by_cases hww:(eE a&&eE b)=true
 ·have hwa:eE a=true:=by rw[Bool.and_eq_true] at hww;exact hww.1
  have hwb:eE b=true:=by rw[Bool.and_eq_true] at hww;exact hww.2
  simp only[tt,seval,hwa]
  refine cZ (pG b hb) ?_ ?_<;>simp only[tt,seval,Tok.row]
  simp only[tt,seval,hwb]
  exact⟨_,_,aF (by rw[g0,hw hww]),ak rfl⟩
 have hww':(eE a&&eE b)=false:=by simpa only[Bool.not_eq_true] using hww
 have hcase:eE a=false∨(eE a=true/\eE b=false):=by cases h:eE a<;>cases h':eE b<;>simp_all
 rcases hcase with hwa|⟨hwa,hwb⟩
 case' inl=>simp only[tt,seval,hwa]
 case' inr=>
  simp only[tt,seval,hwa]
  refine cZ (pG b hb) ?_ ?_<;>simp only[tt,seval,Tok.row]
  simp only[tt,seval,hwb]
 all_goals
  by_cases HTT:(decide (a.kind=4)&&decide (b.kind=4))=true
  ·have hta:a.kind=4:=by rw[Bool.and_eq_true] at HTT;exact of_decide_eq_true HTT.1
   have htb:b.kind=4:=by rw[Bool.and_eq_true] at HTT;exact of_decide_eq_true HTT.2
   simp only[tt,seval,av hta]
   simp only[tt,seval,htb]
   exact⟨_,_,aF (by rw[g0,ht HTT]),ak rfl⟩
  have HT:(decide (a.kind=4)&&decide (b.kind=4))=false:=by simpa only[Bool.not_eq_true] using HTT
  have hcase:¬a.kind=4∨(a.kind=4 /\ ¬b.kind=4):=by cases h:decide (a.kind=4)<;>cases h':decide (b.kind=4)<;>simp_all
  rcases hcase with hta|⟨hta,htb⟩
  case' inl=>simp only[tt,seval,au hta]
  case' inr=>
   simp only[tt,seval,av hta]
   simp only[tt,seval,htb]
  all_goals
   by_cases HQQ:(f8 a&&f8 b)=true
   ·have hqa:f8 a=true:=by rw[Bool.and_eq_true] at HQQ;exact HQQ.1
    have hqb:f8 b=true:=by rw[Bool.and_eq_true] at HQQ;exact HQQ.2
    refine cZ (gX a ha) ?_ ?_<;>simp only[tt,seval,Tok.row]
    simp only[tt,seval,hqa]
    refine cZ (gX b hb) ?_ ?_<;>simp only[tt,seval,Tok.row]
    simp only[tt,seval,hqb]
    exact⟨_,_,aF (by rw[g0,hq HQQ]),ak rfl⟩
   have HQ:(f8 a&&f8 b)=false:=by simpa only[Bool.not_eq_true] using HQQ
   have hcase:f8 a=false∨(f8 a=true/\f8 b=false):=by cases h:f8 a<;>cases h':f8 b<;>simp_all
   rcases hcase with hqa|⟨hqa,hqb⟩
   case' inl=>
    refine cZ (gX a ha) ?_ ?_<;>simp only[tt,seval,Tok.row]
    simp only[tt,seval,hqa]
   case' inr=>
    refine cZ (gX a ha) ?_ ?_<;>simp only[tt,seval,Tok.row]
    simp only[tt,seval,hqa]
    refine cZ (gX b hb) ?_ ?_<;>simp only[tt,seval,Tok.row]
    simp only[tt,seval,hqb]
   all_goals
    rw[g0,he hww' HQ HT,DR]
    by_cases h5a:a.kind=5
    ·rw[if_neg (not_not_intro h5a)]
     simp only[tt,seval,av h5a]
     refine aa (fun h5b=>?_) (fun h5b=>?_)
     ·have h5b:¬b.kind=5:=by simpa only[Bool.not_eq_true',decide_eq_false_iff_not] using h5b
      exact⟨_,_,aF (by rw[if_pos h5b]),ak rfl⟩
     ·have h5b:b.kind=5:=by simpa only[Bool.not_eq_false',decide_eq_true_eq] using h5b
      rw[if_neg (not_not_intro h5b)]
      have hl0:=hpos h5b
      refine aa (fun t1=>?_) (fun t1=>?_)
      ·exact⟨_,_,aF (by rw[if_pos t1]),ak rfl⟩
      ·try simp only[tt,seval]
       refine aa (fun t2=>?_) (fun t2=>?_)
       ·exact⟨_,_,aF (by rw[if_neg t1,if_pos t2]),ak rfl⟩
       ·try simp only[tt,seval]
        refine aa (fun t3=>?_) (fun t3=>?_)
        ·try simp only[tt,seval]
         rw[sD hl hl0,if_neg t1,if_neg t2,if_pos t3,heq hl0 61,heq hl0 62]
         simp only[tt,seval]
         by_cases hx:(l[0].toNat:Int)=61
         ·simp only[tt,seval,av hx]
          exact⟨_,_,aF rfl,ak rfl⟩
         ·simp only[tt,seval,au hx]
          rw[sD hl hl0]
          simp only[tt,seval]
          exact⟨_,_,aF rfl,ak rfl⟩
        ·try simp only[tt,seval]
         refine aa (fun t4=>?_) (fun t4=>?_)
         ·try simp only[tt,seval]
          rw[sD hl hl0,if_neg t1,if_neg t2,if_neg t3,if_pos t4,heq hl0 61]
          simp only[tt,seval]
          exact⟨_,_,aF rfl,ak rfl⟩
         ·exact⟨_,_,aF (by rw[if_neg t1,if_neg t2,if_neg t3,if_neg t4]),ak rfl⟩
    ·simp only[tt,seval,au h5a]
     exact⟨_,_,aF (by rw[if_pos h5a]),ak rfl⟩
def jn (l:List Tok) (i:Nat):List UInt8:=if h:i<l.length then (if 0<i/\sG (l[i-1]'(by omega)) l[i]=true then [32] else [])++(gg l[i]).data.toList else []
def gy (l:List Tok) (k:Nat):List UInt8:=(List.range k).flatMap (jn l)
theorem eT (l:List Tok) (k:Nat):gy l (k+1)=gy l k++jn l k:=by
 unfold gy
 rw[List.range_succ,List.flatMap_append];simp
theorem vW (l:List Tok) {k m:Nat} (h:k<=m):(gy l k).length<=(gy l m).length:=by
 induction m with
 |zero=>rw[Nat.le_zero.1 h];exact Nat.le_refl _
 |succ m ih=>
  by_cases e:k=m+1
  ·subst e;exact Nat.le_refl _
  ·rw[eT,aB];exact Nat.le_trans (ih (by omega)) (Nat.le_add_right _ _)
theorem Dr (l:List Tok) {i:Nat} (h:i<l.length):jn l i=(if 0<i/\sG (l[i-1]'(by omega)) l[i]=true then [32] else [])++(gg l[i]).data.toList:=dif_pos h
def fV (l:List Tok):ByteArray:=if l.all bg=true then (if 2000<(gy l l.length).length then ⟨#[]⟩ else ⟨(gy l l.length).toArray⟩) else ⟨#[]⟩
theorem vX {l:List Tok} {i:Nat} (h:i<l.length) (hb:bg l[i]=false):fV l=⟨#[]⟩:=by
 unfold fV
 refine if_neg fun ha=>?_
 have:=List.all_eq_true.1 ha _ (aK h)
 rw[hb] at this;cases this
theorem DS {l:List Tok} (h:∀j (hj:j<l.length),bg l[j]=true):l.all bg=true:=List.all_eq_true.2 fun x hx=>by
 obtain⟨j,hj,rfl⟩:=List.mem_iff_getElem.1 hx
 exact h j hj
theorem ry:([.lit (.int .u8 32)]:List D)=aX [32]:=rfl
theorem A6 (l:List Tok) (hT:∀t∈l,t.text.size<=1048576) (hb:(gy l l.length).length<=50000000):Cl Tryz.prog 102 [.c (.sl l.length (l.flatMap Tok.row) none),vb false] [] fun r _=>r=vs (fV l):=by
 refine ah ab false Tryz.func102 rfl (by kernel_rfl) ?_
 simp only[Tryz.f102,tt,seval]
 refine dLoop.gh [.ren 7 46] ⟨by decide,by decide,?_⟩
 refine dLoop0.intro (fun f L p=>∃(i:Nat) (bs:List UInt8),f 6=vi i/\f 5 = .c (.s 46 bs.length)/\i<=l.length/\bs=gy l i/\(∀j (hj:j<l.length),j<i->bg l[j]=true)/\L=[(46,.arr 5 bs.length (aX bs) none)]/\p=none) (fun f _ _=>(l.length-bq (f 6)).toNat) [(46,.arr 5 0 (aX []) none)] none ⟨ac rfl (al _),an _,?_⟩ ?_
 ·simp only[tt,seval]
  exact⟨0,[],rfl,rfl,by omega,rfl,fun j _ h=>absurd h (Nat.not_lt_zero _),rfl⟩
 ·rintro g L p ⟨i,bs,h6,h5,hi,hbs,hok,rfl,rfl⟩
  simp only[tt,seval] at h6 h5
  simp only[tt,seval,h6,h5,Int.ofNat_lt]
  refine fun _=>aa (fun hlt=>?_) (fun hge=>?_)
  ·have hsz:bs.length+(jn l i).length<=50000000:=by
    have:=vW l (show i+1<=l.length by omega)
    rw[eT,aB] at this
    rw[hbs];omega
   have hjn:=Dr l hlt
   have htx:=hT _ (aK hlt)
   refine⟨by omega,by omega,_,aE Tok.row_len (az hlt),Tok.ne _ _,?_⟩
   simp only[seval,Tok.tk]
   refine cZ (cG l[i] htx) ?_ ?_<;>simp only[tt,seval,Tok.row]
   refine aa (fun hbad=>?_) (fun hgood=>?_)
   ·exact⟨_,_,pg (vX hlt (by simpa only[Bool.not_eq_true'] using hbad)).symm,ak rfl⟩
   ·have hgood:bg l[i]=true:=by simpa only[Bool.not_eq_false'] using hgood
    have hok':∀j (hj:j<l.length),j<i+1->bg l[j]=true:=fun j hj hji=>by
     by_cases e:j=i
     ·subst e;exact hgood
     ·exact hok j hj (by omega)
    refine dDrawn.intro [] (iO [0,2,4,6,8,10,12,14,16,18,20,22,24,26,29,30,32]) (by kernel_rfl) ?_
    simp only[tt,seval]
    simp only[tt,seval,h6]
    have nogap (hng:¬(0<i/\sG (l[i-1]'(by omega)) l[i]=true)):jn l i=(gg l[i]).data.toList:=by rw[hjn,if_neg hng];rfl
    by_cases hi0:(0:Int)<i
    ·have hlt1:i-1<l.length:=by omega
     simp only[tt,seval,av hi0,h6]
     rw[aq (n:=(i:Int)-1) (by omega) (by omega),show (i:Int)-1=((i-1:Nat):Int) by omega]
     refine⟨by omega,by omega,_,aE Tok.row_len (az hlt1),Tok.ne _ _,?_⟩
     simp only[tt,seval,Tok.tk]
     refine⟨by omega,by omega,_,aE Tok.row_len (az hlt),Tok.ne _ _,?_⟩
     simp only[seval,Tok.tk]
     refine cZ (vV (l[i-1]'hlt1) l[i] (hT _ (aK hlt1)) htx) ?_ ?_<;>simp only[tt,seval,h6,h5,Tok.row]
     cases hgp:sG (l[i-1]'hlt1) l[i] with
     |true=>
      have hjn':jn l i=[32]++(gg l[i]).data.toList:=by rw[hjn,if_pos ⟨by omega,hgp⟩]
      have hsz':bs.length+1+(gg l[i]).size<=50000000:=by rw[hjn',aB,aD] at hsz;simp only[List.length_singleton] at hsz;omega
      simp only[tt,seval]
      refine⟨by kernel_rfl,⟨by simp only[maxLen];omega,by omega⟩,?_⟩
      rw[ry]
      refine⟨by omega,by omega,_,aE Tok.row_len (az hlt),Tok.ne _ _,?_⟩
      simp only[seval,Tok.tk]
      refine cZ (gi l[i] htx) ?_ ?_<;>simp only[tt,seval,h6,Tok.row]
      refine⟨by kernel_rfl,by rw[eR,aD,Nat.mul_one],⟨by simp only[maxLen];omega,by omega⟩,?_⟩
      have e:((bs++[32])++(gg l[i]).data.toList).length=bs.length+1+(gg l[i]).size:=by rw[aB,aD];simp
      rw[eS,eS,<-e,aq (n:=(i:Int)+1) (by omega) (by omega)]
      exact⟨_,none,ac rfl (al _),an _,⟨i+1,_,rfl,rfl,by omega,by rw[eT,hjn',hbs,b9],hok',rfl,rfl⟩,by simp only[bq];omega⟩
     |false=>
      simp only[tt,seval]
      have hjn':=nogap (by rw[hgp];simp)
      have hsz':bs.length+(gg l[i]).size<=50000000:=by rw[hjn',aD] at hsz;omega
      refine⟨by omega,by omega,_,aE Tok.row_len (az hlt),Tok.ne _ _,?_⟩
      simp only[seval,Tok.tk]
      refine cZ (gi l[i] htx) ?_ ?_<;>simp only[tt,seval,h6,Tok.row]
      refine⟨by kernel_rfl,by rw[eR,aD,Nat.mul_one],⟨by simp only[maxLen];omega,by omega⟩,?_⟩
      have e:(bs++(gg l[i]).data.toList).length=bs.length+(gg l[i]).size:=by rw[aB,aD]
      rw[eS,<-e,aq (n:=(i:Int)+1) (by omega) (by omega)]
      exact⟨_,none,ac rfl (al _),an _,⟨i+1,_,rfl,rfl,by omega,by rw[eT,hjn',hbs],hok',rfl,rfl⟩,by simp only[bq];omega⟩
    ·simp only[tt,seval,au hi0,h6,h5]
     have hjn':=nogap (by omega)
     have hsz':bs.length+(gg l[i]).size<=50000000:=by rw[hjn',aD] at hsz;omega
     refine⟨by omega,by omega,_,aE Tok.row_len (az hlt),Tok.ne _ _,?_⟩
     simp only[seval,Tok.tk]
     refine cZ (gi l[i] htx) ?_ ?_<;>simp only[tt,seval,h6,Tok.row]
     refine⟨by kernel_rfl,by rw[eR,aD,Nat.mul_one],⟨by simp only[maxLen];omega,by omega⟩,?_⟩
     have e:(bs++(gg l[i]).data.toList).length=bs.length+(gg l[i]).size:=by rw[aB,aD]
     rw[eS,<-e,aq (n:=(i:Int)+1) (by omega) (by omega)]
     exact⟨_,none,ac rfl (al _),an _,⟨i+1,_,rfl,rfl,by omega,by rw[eT,hjn',hbs],hok',rfl,rfl⟩,by simp only[bq];omega⟩
  ·have hie:i=l.length:=by omega
   subst hie
   have hall:=DS fun j hj=>hok j hj hj
   refine fun _=>aa (fun h2=>?_) (fun h2=>?_)
   ·exact⟨_,_,pg (by rw[fV,if_pos hall,if_pos (by rw[<-hbs];omega)]),ak rfl⟩
   ·try simp only[tt,seval]
    refine⟨by kernel_rfl,by simp only[maxLen];omega,bs,rfl,rfl,?_⟩
    simp only[tt,seval]
    exact⟨_,_,pg (by rw[fV,if_pos hall,if_neg (by rw[<-hbs];omega),hbs]),ak rfl⟩
theorem uc (l:List Tok) (hT:∀t∈l,t.text.size<=1048576) (hb:(gy l l.length).length<=50000000):Cl Tryz.prog 41 [.c (.sl l.length (l.flatMap Tok.row) none)] [] fun r _=>r=vs (fV l):=by
 refine ah ab false Tryz.func41 rfl (by kernel_rfl) ?_
 simp only[Tryz.f41,tt,seval]
 refine cZ (A6 l hT hb) ?_ ?_<;>simp only[tt,seval]
 exact⟨_,_,rfl,ak rfl⟩
def Expr.kind:Expr->Int | .mk k _ _ _ _ _ _ _=>k
def Expr.op:Expr->Int | .mk _ o _ _ _ _ _ _=>o
def Expr.kids:Expr->List Expr | .mk _ _ _ _ _ _ k _=>k
def Expr.sub:Expr->List Query | .mk _ _ _ _ _ _ _ s=>s
def bl (op:Int):Int:=if op=1 then 1 else if op=2 then 2 else if 3<=op/\op<=8 then 4 else if op=9 then 5 else if op=10∨op=11 then 6 else if 12<=op/\op<=14 then 7 else 0
def lv (k op:Int):Int:=if k=4 then bl op else if k=3 then (if op=15 then 3 else if op=16 then 8 else 0) else if 5<=k/\k<=8 then 4 else if k=1∨k=2∨k=9 then 9 else 0
def Co (e:Expr):Int:=lv e.kind e.op
theorem yP (k op:Int):0<=lv k op/\lv k op<=9:=by unfold lv bl;(repeat' split)<;>omega
def nd (kind op:Int) (k:Nat):Int:=if lv kind op=0∨lv kind op=9 then 0 else if kind=4 then (if lv kind op=4 then 5 else if k=0 then lv kind op else lv kind op+1) else if kind=3 then lv kind op else if kind=7/\0<k then 1 else 5
def ud (kind op:Int) (kids:List Expr) (k:Nat):Bool:=decide (Co (kids.getD k (.mk 0 0 false ⟨0,0,⟨#[]⟩⟩ ⟨#[]⟩ ⟨#[]⟩ [] []))<nd kind op k)
def Fh:List Int:=[0,1,2,4,4,4,4,4,4,5,6,6,7,7,7]
theorem Cp:([.lit (.int .i64 0),.lit (.int .i64 1),.lit (.int .i64 2),.lit (.int .i64 4),.lit (.int .i64 4),.lit (.int .i64 4),.lit (.int .i64 4),.lit (.int .i64 4),.lit (.int .i64 4),.lit (.int .i64 5),.lit (.int .i64 6),.lit (.int .i64 6),.lit (.int .i64 7),.lit (.int .i64 7),.lit (.int .i64 7)]:List D)=Fh.flatMap irow:=rfl
theorem ue (n:Int):(irow n).length=1:=rfl
theorem Cq (v:Int) (r:List D):irow v++r≠[]:=fun h=>by cases h
theorem Cr:∀n:Fin 15,1<=n.1->Fh[n.1]'n.2=bl n.1:=by decide
theorem l7 (e:Expr):Cl Tryz.prog 262 [.ag (ar e.row)] [] fun r _=>r=vi (Co e):=by
 obtain⟨kind,op,not,val,qual,name,kids,sub⟩:=e
 rw[Expr.row_mk,Co,Expr.kind,Expr.op]
 refine ah ab false Tryz.func262 rfl (by kernel_rfl) ?_
 simp only[Tryz.f262,tt,seval]
 all_goals repeat' first|(refine aa (fun h=>?_) (fun h=>?_)<;>try simp only[tt,seval])|(intro _;try simp only[tt,seval])
 all_goals first|contradiction|exact⟨_,_,kh (by unfold lv;(repeat' split)<;>omega),ak rfl⟩|skip
 have h4:kind=4:=by assumption
 refine cZ (dh op 1 14) ?_ ?_<;>simp only[tt,seval]
 refine aa (fun hc=>?_) (fun hc=>?_)
 ·have hc:1<=op/\op<=14:=by simpa only[decide_eq_true_eq] using hc
  have hlt:op.toNat<Fh.length:=by show _<15;omega
  refine⟨by omega,by omega,?_⟩
  rw[Cp,aE ue (az hlt)]
  simp only[tt,seval,irow]
  exact⟨_,_,kh (by rw[lv,if_pos h4];exact (Cr ⟨op.toNat,hlt⟩ (by show 1<=op.toNat;omega)).trans (congrArg bl (Int.toNat_of_nonneg (show 0<=op by omega)))),ak rfl⟩
 ·exact⟨_,_,kh (by rw[lv,if_pos h4];unfold bl;have:¬(1<=op/\op<=14):=(by simpa only[decide_eq_false_iff_not,decide_eq_true_eq] using hc);(repeat' split)<;>omega),ak rfl⟩
theorem Cs (kind op:Int) (not:Bool) (val:Val) (qual name:ByteArray) (kids:List Expr) (sub:List Query) (k:Nat) (hk:k<kids.length):Cl Tryz.prog 307 [.ag (ar (Expr.mk kind op not val qual name kids sub).row),vi k] [] fun r _=>r=vi (nd kind op k):=by
 rw[Expr.row_mk]
 refine ah ab false Tryz.func307 rfl (by kernel_rfl) ?_
 simp only[Tryz.f307,tt,seval]
 refine cZ (l7 (Expr.mk kind op not val qual name kids sub)) ?_ ?_<;>simp only[tt,seval,Expr.row_mk,Co,Expr.kind,Expr.op]
 have hb:=yP kind op
 refine fun hlen=>?_
 rw[aq (n:=(kids.length:Int)-1) (by omega) (by omega)]
 refine cZ (dh k 0 (kids.length-1)) ?_ ?_<;>simp only[tt,seval]
 simp only[tt,seval,av (show (0:Int)<=k/\(k:Int)<=(kids.length:Int)-1 by omega)]
 by_cases l0:lv kind op=0
 ·simp only[tt,seval,av l0]
  exact⟨_,_,kh (by rw[nd,if_pos (Or.inl l0)]),ak rfl⟩
 simp only[tt,seval,au l0]
 refine aa (fun l9=>?_) (fun l9=>?_)
 ·exact⟨_,_,kh (by rw[nd,if_pos (Or.inr l9)]),ak rfl⟩
 have e:nd kind op k=if kind=4 then (if lv kind op=4 then 5 else if k=0 then lv kind op else lv kind op+1) else if kind=3 then lv kind op else if kind=7/\0<k then 1 else 5:=by rw[nd,if_neg (by omega)]
 rw[e,aq (n:=lv kind op+1) (by omega) (by omega)]
 all_goals repeat' first|(refine aa (fun h=>?_) (fun h=>?_)<;>try simp only[tt,seval])|(intro _;try simp only[tt,seval])
 all_goals first|contradiction|exact⟨_,_,kh (by (repeat' split)<;>omega),ak rfl⟩
theorem yQ (kind op:Int) (not:Bool) (val:Val) (qual name:ByteArray) (kids:List Expr) (sub:List Query) (k:Nat) (hk:k<kids.length):Cl Tryz.prog 261 [.ag (ar (Expr.mk kind op not val qual name kids sub).row),vi k] [] fun r _=>r=vb (ud kind op kids k):=by
 rw[Expr.row_mk]
 refine ah ab false Tryz.func261 rfl (by kernel_rfl) ?_
 simp only[Tryz.f261,tt,seval]
 refine dDrawn.intro [] (iO [0,2,4,6,8,11,12,14,16,18,20,22,26,28,25,31,32,34,36]) (by kernel_rfl) ?_
 simp only[tt,seval]
 refine fun hlen=>?_
 rw[aq (n:=(kids.length:Int)-1) (by omega) (by omega)]
 refine cZ (dh k 0 (kids.length-1)) ?_ ?_<;>simp only[tt,seval]
 simp only[tt,seval,av (show (0:Int)<=k/\(k:Int)<=(kids.length:Int)-1 by omega)]
 refine⟨by omega,by omega,_,aE Expr.row_len (az hk),Expr.ne _ _,?_⟩
 simp only[seval,Expr.tk,Expr.row_len]
 refine cZ (l7 kids[k]) ?_ ?_<;>simp only[tt,seval]
 refine cZ (Cs kind op not val qual name kids sub k hk) ?_ ?_<;>simp only[tt,seval,Expr.row_mk]
 exact⟨_,_,aF (by rw[ud,List.getD_eq_getElem?_getD,az hk];rfl),ak rfl⟩
end Go.Proofs.YtbodcedhmccenaaGreatDoor
namespace Go.Cv
open Go Go.RowKit Go.Dv
open Go.Vc (iR bz dT vis aS CellF RowF ValsF D inN okV aT cY jS aH TS sizeTS dr am ga bU nA pt dS bB kZ jU eP inN inN_iff Plan dsts dstsOps vI iv)
abbrev K1:=Rg->World->Prop
structure Gr (w w':World):Prop where
 size:w.heap.size<=w'.heap.size
 keep:∀b,b<w.heap.size->w'.heap[b]?=w.heap[b]?
 os:w'.os=w.os
 tape:w'.tape=w.tape
 output:w'.output=w.output
end Go.Cv
namespace Go.Cv
open Go Go.RowKit Go.Dv
open Go.Vc (vis aS CellF RowF ValsF D okV vI Grow bU aT)
def Res (P:Program) (w w':World) (r:S) (v:Value):Prop:=
 ∃ β ok,RelS P w' β ok (expS 9700 r) v/\(∀b,ok b -> ¬ownB (back r []) β b)/\(∀i o,Go.Dv.look (back r []) i=some o->RelO P w' β ok i o)/\(∀b,ownB (back r []) β b->w.heap.size<=b) /\
  (fps r []).flatten.Nodup/\(∀b∈(fps r []).flatten,w.heap.size<=b/\∃cs t lh,w'.heap[b]?=some (.cells cs t lh)/\Lh cs.size lh)
section
variable {P:Program} {w w':World}
theorem Cl.at {g:FuncId} {args:List S} {R:S->List (List C)->Prop} (h:Cl P g args [] R) (hp:bv (args.flatMap be)=true) {vs:List Value}
 (hv:RelA P w (fun _=>none) (fun _=>True) args vs) (hg:GlW w (fun _=>False)) :
 aT P g=true/\Calls P g vs.toArray w fun e w'=>∃v,e = .returned v/\∃r,R r []/\Gr w w'/\Res P w w' r v:=by
 obtain⟨e1,e2⟩:=mq 9500 hp
 have el:lent args []=[]:=by simp [lent,e2,iB]
 have hno:∀ β b,¬ownB [] β b:=fun β b ⟨i,o,h1,_⟩=>by simp [Go.Dv.look] at h1
 have hok:rI (fun _=>True) (lent args []) (fun _=>none)=fun _=>True:=by
  funext b
  simp [rI,el,hno]
 refine⟨h.1,(h.2 w (fun _=>none) (fun _=>True) vs ?_ ?_ ?_).mono ?_⟩
 ·rw[e1,hok];exact hv
 ·rw[el];exact⟨fun i o hl=>by simp [Go.Dv.look] at hl,fun i j o o' b hl=>by simp [Go.Dv.look] at hl⟩
 ·exact hg.mono (fun _ _ _=>rfl) fun b hb _=>by rw[el] at hb;exact (hno _ _ hb).elim
 ·rintro e W' ⟨v,r,objs,β,rfl,hR,hP⟩
  have ho:objs=[]:=List.eq_nil_of_length_eq_zero (by simpa using hP.len)
  subst ho
  refine⟨v,rfl,r,hR,⟨hP.tr.size,fun b hb=>hP.tr.keep b hb (by rw[el];exact hno _ b),hP.outer.1,hP.outer.2.1,hP.outer.2.2⟩,β,_,hP.rel,fun b hb=>hb.1,hP.obs.rel,fun b hb=>?_,hP.fresh.1,fun b hb=>?_⟩
  ·by_cases hlt:b<w.heap.size
   ·have:=hP.tr.own b hlt hb
    rw[el] at this;exact (hno _ _ this).elim
   ·omega
  ·obtain⟨h1,h2,_⟩:=hP.fresh.2 b hb
   refine⟨h1.elim id fun h=>?_,h2⟩
   rw[el] at h;exact (hno _ _ h).elim
theorem Res.val {x v:Value} (h:Res P w w' (.c (.v x)) v):v=x:=by
 obtain⟨β,ok,h,_⟩:=h
 exact h.1
end
def aw:List D->List (List (List Nat))->List C
 |.lit v::r,Fs=>.v v::aw r Fs
 |.sl n ds::r,F::Fs=>.sl n ds (some F)::aw r Fs
 |.sl n ds::r,[]=>.sl n ds none::aw r []
 | [],_=>[]
theorem aG {F G:List Nat} (h:∀x,F.count x<=G.count x):Sb F G:=h
end Go.Cv
set_option maxRecDepth 8000
namespace Go.Proofs.YtbodcedhmccenaaGreatDoor
open Go Go.Dv
open Go.Vc (D d5 d6 cM bo)
theorem A7 {α:Type} {row:α->List D} {w:Nat} {l r:List α} {x:α} (h:l=x::r) (hl:∀x,(row x).length=w+1) (C:List D->Prop):(∃ds',l.flatMap row=ds' /\ ¬ds'=[]/\C ds')=C (row x++r.flatMap row):=by
 subst h
 rw[List.flatMap_cons]
 exact propext ⟨fun ⟨_,h1,_,h3⟩=>h1▸h3,fun h=>⟨_,rfl,fun h0=>by have:=congrArg List.length h0;rw[aB,hl] at this;simp at this,h⟩⟩
theorem bP {α:Type} {row:α->List D} {w:Nat} {l:List α} {i:Nat} {x:α} (hx:l[i]?=some x) (hl:∀x,(row x).length=w+1) (C:List D->Prop):(∃ds',(l.flatMap row).drop (i*(w+1))=ds' /\ ¬ds'=[]/\C ds')=C (row x++(l.drop (i+1)).flatMap row):=by
 rw[aE hl hx]
 exact propext ⟨fun ⟨_,h1,_,h3⟩=>h1▸h3,fun h=>⟨_,rfl,fun h0=>by have:=congrArg List.length h0;rw[aB,hl] at this;simp at this,h⟩⟩
mutual
inductive ERow where
 |mk (l:List Expr)
end
mutual
def ERow.row:ERow->List D
 |.mk l=>.sl l.length (l.flatMap Expr.row)::[]
end
theorem ERow.row_mk (l:List Expr):(ERow.mk l).row = .sl l.length (l.flatMap Expr.row)::[]:=by rw[ERow.row]
theorem ERow.row_len (x:ERow):x.row.length=1:=by cases x;simp [ERow.row]
mutual
def jE:ERow->Nat
 |.mk l=>cx l
end
theorem yR (l:List Expr):jE (.mk l)=cx l:=by rw[jE]
def jF (l:List ERow):Nat:=l.length+(l.map jE).sum
theorem eU (l:List ERow):jF l=l.length+(l.map jE).sum:=rfl
def iH (l:List ByteArray):Nat:=l.length+(l.map ByteArray.size).sum
mutual
inductive Stmt where
 |mk (kind:Int) (query:Query) (table:ByteArray) (rows:List ERow) (cols:List ByteArray) (sets:List Expr) (where_:List Expr)
end
mutual
def Stmt.row:Stmt->List D
 |.mk kind query table rows cols sets where_=>int kind::(query.row++str table :: .sl rows.length (rows.flatMap ERow.row) :: .sl cols.length (cols.flatMap srow) :: .sl sets.length (sets.flatMap Expr.row) :: .sl where_.length (where_.flatMap Expr.row)::[])
end
theorem Stmt.row_mk (kind:Int) (query:Query) (table:ByteArray) (rows:List ERow) (cols:List ByteArray) (sets:List Expr) (where_:List Expr):(Stmt.mk kind query table rows cols sets where_).row=int kind::(query.row++str table :: .sl rows.length (rows.flatMap ERow.row) :: .sl cols.length (cols.flatMap srow) :: .sl sets.length (sets.flatMap Expr.row) :: .sl where_.length (where_.flatMap Expr.row)::[]):=by rw[Stmt.row]
mutual
def pH:Stmt->Nat
 |.mk kind query table rows cols sets where_=>szQuery query+(table.size+(jF rows+(iH cols+(cx sets+(cx where_)))))
end
theorem gL (kind:Int) (query:Query) (table:ByteArray) (rows:List ERow) (cols:List ByteArray) (sets:List Expr) (where_:List Expr):pH (.mk kind query table rows cols sets where_)=szQuery query+(table.size+(jF rows+(iH cols+(cx sets+(cx where_))))):=by rw[pH]
def ERow.l:ERow->List Expr | .mk l=>l
theorem xi (x:ERow):x.row=[.sl x.l.length (x.l.flatMap Expr.row)]:=by obtain⟨l⟩:=x;rw[ERow.row_mk];rfl
theorem l8 (x:ERow):jE x=cx x.l:=by obtain⟨l⟩:=x;rw[yR];rfl
end Go.Proofs.YtbodcedhmccenaaGreatDoor
set_option maxRecDepth 8000
namespace Go.Proofs.YtbodcedhmccenaaGreatDoor
open Go Go.Dv
open Go.Vc (D d5 d6 cM bo)
open Go.Cv
open Go.Vc (CellF ValsF aT)
section
variable {α:Type} (f:Int->α->α) (c:α->Nat)
def fH:List α->Nat
 | []=>0
 |e::es=>c e+fH es
theorem pi:∀(es fs:List α),fH c (es++fs)=fH c es+fH c fs
 | [],fs=>by simp [fH]
 |e::es,fs=>by simp [fH,pi es fs];omega
end
theorem ae:type_of% @Expr.row_mk:=@Expr.row_mk
theorem ay:type_of% @Query.row_mk:=@Query.row_mk
theorem aJ:type_of% @Expr.row_len:=@Expr.row_len
theorem cn:type_of% @Tok.row_len:=@Tok.row_len
end Go.Proofs.YtbodcedhmccenaaGreatDoor
