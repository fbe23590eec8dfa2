/-
  Words, numbers and tokens; trees.
  Conditions: none.
-/
import Derived.Test.YteffjmaadkkmeaaGreatDoorRPTypes
import Derived.Shelf.Strings.BuilderF
import Derived.Shelf.LaysM
import Derived.Shelf.LaysC
import Derived.Shelf.Strconv.Itoa3
import Derived.Shelf.Strings.Split
import Derived.Shelf.Strings.Replace
import Derived.Shelf.Strconv.AtoiAll
import Derived.Test.YteffjmaadkkmeaaGreatDoorProg
import Derived.Lib.UnsafeStr
import Derived.Lib.AtoiTie
set_option linter.unusedVariables false
set_option linter.unusedSimpArgs false
set_option linter.unusedSectionVars false
set_option maxRecDepth 8000
namespace Go.Proofs.YteffjmaadkkmeaaGreatDoor
open Go Go.Dv
open Go.Vc (D cY d3 cN bk)
abbrev int (n:Int):D:=.lit (.int .i64 n)
abbrev bool (b:Bool):D:=.lit (.bool b)
abbrev str (s:ByteArray):D:=.lit (.string s)
abbrev vi (n:Int):S:=.c (.v (.int .i64 n))
abbrev vb (b:Bool):S:=.c (.v (.bool b))
abbrev vs (s:ByteArray):S:=.c (.v (.string s))
structure Val where
 kind:Int
 num:Int
 text:ByteArray
def Val.row (v:Val):List D:=[int v.kind,int v.num,str v.text]
structure Fa where
 code:Int
 name:ByteArray
def cv (l:Int) (s:Nat):Int:=if (s:Int)<=l then l-s else -1
def De (v:Val):Nat:=v.text.size
theorem ga {l:Int} {s:Nat} (h0:0<=l) : -1<=cv l s/\cv l s<=l:=by unfold cv;split<;>omega
theorem tN {l:Int} {a b:Nat} (h:0<=cv l a):cv l (a+b)=cv (cv l a) b:=by
 unfold cv at *
 split at h
 ·rename_i h1
  rw[if_pos h1]
  by_cases h2:((a+b:Nat):Int)<=l
  ·rw[if_pos h2,if_pos (by omega)];omega
  ·rw[if_neg h2,if_neg (by omega)]
 ·omega
theorem px {l:Int} {a b:Nat} (h:cv l a<0) (h0:0<=l):cv l (a+b) = -1:=by
 unfold cv at *
 split at h
 ·omega
 ·exact if_neg (by omega)
theorem gB {a b:Int} (h:a=b):vi a=vi b:=by rw[h]
theorem iQ {a b:ByteArray} (h:a=b):vs a=vs b:=by rw[h]
theorem aE {a b:Bool} (h:a=b):vb a=vb b:=by rw[h]
theorem qM {α:Type} (g:α->Nat) {l:List α} {i:Nat} (h:i<l.length):((l.take (i+1)).map g).sum=((l.take i).map g).sum+g l[i]:=by
 rw[List.take_succ_eq_append_getElem h,List.map_append,List.sum_append];simp only[List.map_cons,List.map_nil,List.sum_cons,List.sum_nil,Nat.add_zero]
theorem d4 {α:Type} (g:α->Nat) (l:List α) (i:Nat):∃r,(l.map g).sum=((l.take i).map g).sum+r:=⟨((l.drop i).map g).sum,by
 conv=>lhs;rw[<-List.take_append_drop i l]
 rw[List.map_append,List.sum_append]⟩
abbrev vu (b:Int):S:=.c (.v (.int .u8 b))
theorem cF (a l h:Int):Cl Tryz.prog 191 [vi a,vi l,vi h] [] fun r _=>r=vb (decide (l<=a/\a<=h)):=by
 refine ae ab false Tryz.func191 rfl (by kernel_rfl) ?_
 simp only[Tryz.f191,tt,seval]
 all_goals repeat' first|(refine aa (fun h=>?_) (fun h=>?_)<;>try simp only[tt,seval])|(intro _;try simp only[tt,seval])
 all_goals (refine⟨_,[],aE (Bool.eq_iff_iff.2 ?_),ai rfl⟩)
 all_goals (simp only[decide_eq_true_eq,decide_eq_false_iff_not,Bool.false_eq_true,false_iff] at *)
 all_goals omega
theorem jh (a:Int):Cl Tryz.prog 178 [vu a] [] fun r _=>r=vb (decide (48<=a/\a<=57)):=by
 refine ae ab false Tryz.func178 rfl (by kernel_rfl) ?_
 simp only[Tryz.f178,tt,seval]
 all_goals repeat' first|(refine aa (fun h=>?_) (fun h=>?_)<;>try simp only[tt,seval])|(intro _;try simp only[tt,seval])
 all_goals (refine⟨_,[],aE (Bool.eq_iff_iff.2 ?_),ai rfl⟩)
 all_goals (simp only[decide_eq_true_eq,decide_eq_false_iff_not,Bool.false_eq_true,false_iff] at *)
 all_goals omega
theorem kZ (a:Int):Cl Tryz.prog 233 [vu a] [] fun r _=>r=vb (decide (48<=a/\a<=57)):=by
 refine ae ab false Tryz.func233 rfl (by kernel_rfl) ?_
 simp only[Tryz.f233,tt,seval]
 all_goals repeat' first|(refine aa (fun h=>?_) (fun h=>?_)<;>try simp only[tt,seval])|(intro _;try simp only[tt,seval])
 all_goals (refine⟨_,[],aE (Bool.eq_iff_iff.2 ?_),ai rfl⟩)
 all_goals (simp only[decide_eq_true_eq,decide_eq_false_iff_not,Bool.false_eq_true,false_iff] at *)
 all_goals omega
def jR (a:Int):Bool:=decide (97<=a/\a<=122)||decide (65<=a/\a<=90)||decide (a=95)
theorem m6 (a:Int):Cl Tryz.prog 174 [vu a] [] fun r _=>r=vb (jR a):=by
 refine ae ab false Tryz.func174 rfl (by kernel_rfl) ?_
 simp only[Tryz.f174,tt,seval]
 all_goals repeat' first|(refine aa (fun h=>?_) (fun h=>?_)<;>try simp only[tt,seval])|(intro _;try simp only[tt,seval])
 all_goals (refine⟨_,[],aE (Bool.eq_iff_iff.2 ?_),ai rfl⟩)
 all_goals (simp only[decide_eq_true_eq,decide_eq_false_iff_not,Bool.or_eq_true,true_iff,jR] at *)
 all_goals omega
theorem y8 (a:Int):Cl Tryz.prog 276 [vu a] [] fun r _=>r=vb (jR a):=by
 refine ae ab false Tryz.func276 rfl (by kernel_rfl) ?_
 simp only[Tryz.f276,tt,seval]
 all_goals repeat' first|(refine aa (fun h=>?_) (fun h=>?_)<;>try simp only[tt,seval])|(intro _;try simp only[tt,seval])
 all_goals (refine⟨_,[],aE (Bool.eq_iff_iff.2 ?_),ai rfl⟩)
 all_goals (simp only[decide_eq_true_eq,decide_eq_false_iff_not,Bool.or_eq_true,true_iff,jR] at *)
 all_goals omega
theorem gb (s:ByteArray):Cl Tryz.prog 194 [vs s] [] fun r _=>r=vb (decide (1<=s.size/\s.size<=20)):=by
 refine ae ab false Tryz.func194 rfl (by kernel_rfl) ?_
 simp only[Tryz.f194,tt,seval]
 refine fun hs=>?_
 refine cZ (cF s.size 1 20) ?_ ?_<;>simp only[tt,seval]
 exact⟨_,_,aE (by simp only[decide_eq_decide];omega),ai rfl⟩
theorem er (s:ByteArray):Cl Tryz.prog 140 [vs s] [] fun r _=>r=vb (decide (1<=s.size/\s.size<=20)):=by
 refine ae ab false Tryz.func140 rfl (by kernel_rfl) ?_
 simp only[Tryz.f140,tt,seval]
 refine fun hs=>?_
 all_goals repeat' first|(refine aa (fun h=>?_) (fun h=>?_)<;>try simp only[tt,seval])|(intro _;try simp only[tt,seval])
 all_goals (refine⟨_,[],aE (Bool.eq_iff_iff.2 ?_),ai rfl⟩)
 all_goals (simp only[decide_eq_true_eq,decide_eq_false_iff_not,Bool.false_eq_true,false_iff] at *)
 all_goals omega
theorem py (a:Int):Cl Tryz.prog 232 [vu a] [] fun r _=>r=vb (jR a||decide (48<=a/\a<=57)):=by
 refine ae ab false Tryz.func232 rfl (by kernel_rfl) ?_
 simp only[Tryz.f232,tt,seval]
 refine cZ (y8 a) ?_ ?_<;>simp only[tt,seval]
 refine aa (fun h=>?_) (fun h=>?_)
 ·simp only[tt,seval]
  exact⟨_,_,aE (by rw[h];rfl),ai rfl⟩
 ·simp only[tt,seval]
  refine cZ (kZ a) ?_ ?_<;>simp only[tt,seval]
  exact⟨_,_,aE (by rw[h];rfl),ai rfl⟩
def up8 (b:UInt8):UInt8:=if 97<=b.toNat/\b.toNat<=122 then b-32 else b
def bL (s:ByteArray):ByteArray:=⟨(s.data.toList.map up8).toArray⟩
theorem fH (l:List UInt8):(aO l).length=l.length:=by simp [aO]
theorem oC {l:List UInt8} {i:Nat} (h:i<l.length):(aO l).drop i=D.lit (.int .u8 (l[i].toNat:Int))::(aO l).drop (i+1):=by
 unfold aO
 rw[<-List.map_drop,<-List.map_drop,List.drop_eq_getElem_cons h];rfl
theorem pz {l:List UInt8} {i:Nat} {b:UInt8} (h:i<l.length):(aO l).take i++(D.lit (.int .u8 (b.toNat:Int))::(aO l).drop (i+1))=aO (l.set i b):=by
 unfold aO
 rw[List.set_eq_take_append_cons_drop,if_pos h,List.map_append,List.map_cons,List.map_take,List.map_drop]
theorem aG (s:ByteArray):s.data.toList.length=s.size:=by simp
def r9 (l:List UInt8) (i:Nat):List UInt8:=(l.take i).map up8++l.drop i
theorem ig (l:List UInt8) (i:Nat):(r9 l i).length=l.length:=by rw[r9,aA,List.length_map,<-aA,List.take_append_drop]
theorem sj {l:List UInt8} {i:Nat} (h:i<l.length):(r9 l i)[i]'(by rw[ig];exact h)=l[i]:=by
 have hl:((l.take i).map up8).length=i:=by simp;omega
 have:(r9 l i)[i]?=some l[i]:=by
  rw[r9,List.getElem?_append_right (by omega),hl,Nat.sub_self,List.drop_eq_getElem_cons h];rfl
 rw[ay (by rw[ig];exact h)] at this
 exact Option.some.inj this
theorem pA {l:List UInt8} {i:Nat} (h:i<l.length):(r9 l i).set i (up8 l[i])=r9 l (i+1):=by
 have hl:((l.take i).map up8).length=i:=by simp;omega
 unfold r9
 rw[List.set_append_right _ _ (by omega),hl,Nat.sub_self,List.drop_eq_getElem_cons h,List.set_cons_zero,List.take_succ_eq_append_getElem h,List.map_append]
 simp
theorem mD {l:List UInt8} {i:Nat} (h:i<l.length) (hu:up8 l[i]=l[i]):r9 l i=r9 l (i+1):=by
 rw[<-pA h,hu]
 conv=>rhs;rw[<-sj h]
 rw[List.set_getElem_self]
theorem wP (l:List UInt8):r9 l l.length=l.map up8:=by simp [r9]
theorem sk {b:UInt8} (h:¬(97<=b.toNat/\b.toNat<=122)):up8 b=b:=if_neg h
theorem wQ {b:UInt8} (h:97<=b.toNat) (h':b.toNat<=122):((up8 b).toNat:Int)=b.toNat-32:=by
 unfold up8
 rw[if_pos ⟨h,h'⟩,UInt8.toNat_sub_of_le _ _ (by rw[UInt8.le_iff_toNat_le];show 32<=_;omega)]
 show ((b.toNat-32:Nat):Int)=_
 omega
theorem vH (s:ByteArray) (hs:s.size<=1048576):Cl Tryz.prog 177 [vs s] [] fun r _=>r=vs (bL s):=by
 obtain⟨l,hl⟩:∃l,l=s.data.toList:=⟨_,rfl⟩
 have hll:l.length=s.size:=by rw[hl];exact aG s
 refine ae ab false Tryz.func177 rfl (by kernel_rfl) ?_
 simp only[Tryz.f177,tt,seval]
 rw[<-hl]
 refine dLoop.intro (fun f L p=>∃i:Nat,f 4=vi i/\i<=s.size/\L=[(6,.arr 5 s.size (aO (r9 l i)) none)]/\p=none) (fun f _ _=>(s.size-aU (f 4)).toNat) [(6,.arr 5 s.size (aO l) none)] none ⟨ac rfl (ak _),al _,?_⟩ ?_
 ·simp only[tt,seval]
  exact⟨0,rfl,by omega,by simp [r9]⟩
 ·rintro g L p ⟨i,h4,hi,rfl,rfl⟩
  simp only[tt,seval] at h4
  simp only[tt,seval,h4,Int.ofNat_lt]
  refine fun _=>aa (fun hlt=>?_) (fun hge=>?_)
  ·have hlt':i<(r9 l i).length:=by rw[ig];omega
   have hd:=oC hlt'
   rw[sj (by omega)] at hd
   have hi0:(0:Int)<=(i:Int):=Int.natCast_nonneg i
   have hlI:(i:Int)<(s.size:Int):=by omega
   simp only[tt,seval,hd,Nat.mul_one,hlt,hi0]
   refine aa (fun h=>?_) (fun h=>?_)
   ·simp only[tt,seval,h4,hd,Nat.mul_one,hi0,hlI]
    simp only[decide_eq_true_eq] at h
    refine aa (fun h'=>?_) (fun h'=>?_)
    ·rw[ax (n:=(i:Int)+1) (by omega) (by omega),IntWalk.u8_in _ ⟨by omega,by omega⟩,<-wQ (by omega) (by omega),pz hlt',pA (by omega)]
     exact⟨by rw[fH,ig];omega,_,none,ac rfl (ak _),al _,⟨i+1,rfl,by omega,rfl,rfl⟩,by simp only[aU];omega⟩
    ·rw[dk i (by omega)]
     have hsame:=mD (l:=l) (i:=i) (by omega) (sk fun h1=>by omega)
     exact⟨_,none,ac rfl (ak _),al _,⟨i+1,rfl,by omega,congrArg (fun x=>[(6,O.arr 5 s.size (aO x) none)]) hsame,rfl⟩,by simp only[aU];omega⟩
   ·simp only[tt,seval,h4,hd,Nat.mul_one,hi0,hlI]
    rw[dk i (by omega)]
    have hsame:=mD (l:=l) (i:=i) (by omega) (sk fun h1=>by simp only[decide_eq_false_iff_not] at h;omega)
    exact⟨_,none,ac rfl (ak _),al _,⟨i+1,rfl,by omega,congrArg (fun x=>[(6,O.arr 5 s.size (aO x) none)]) hsame,rfl⟩,by simp only[aU];omega⟩
  ·have:i=s.size:=by omega
   subst this
   refine⟨by kernel_rfl,by simp only[maxLen];omega,r9 l s.size,by rw[ig];exact hll,rfl,?_⟩
   simp only[tt,seval]
   exact⟨_,_,iQ (by rw[<-hll,wP,hl];rfl),ai rfl⟩
theorem pe (s:ByteArray) (hs:s.size<=1048576):Cl Tryz.prog 235 [vs s] [] fun r _=>r=vs (bL s):=by
 obtain⟨l,hl⟩:∃l,l=s.data.toList:=⟨_,rfl⟩
 have hll:l.length=s.size:=by rw[hl];exact aG s
 refine ae ab false Tryz.func235 rfl (by kernel_rfl) ?_
 simp only[Tryz.f235,tt,seval]
 rw[<-hl]
 refine fun _=>?_
 refine dLoop.intro (fun f L p=>∃i:Nat,f 10=vi i/\i<=s.size/\L=[(7,.arr 5 s.size (aO (r9 l i)) none)]/\p=none) (fun f _ _=>(s.size-aU (f 10)).toNat) [(7,.arr 5 s.size (aO l) none)] none ⟨ac rfl (ak _),al _,?_⟩ ?_
 ·simp only[tt,seval]
  exact⟨0,rfl,by omega,by simp [r9]⟩
 ·rintro g L p ⟨i,h4,hi,rfl,rfl⟩
  simp only[tt,seval] at h4
  simp only[tt,seval,h4,Int.ofNat_lt]
  refine aa (fun hlt=>?_) (fun hge=>?_)
  ·have hlt':i<(r9 l i).length:=by rw[ig];omega
   have hd:=oC hlt'
   rw[sj (by omega)] at hd
   have hi0:(0:Int)<=(i:Int):=Int.natCast_nonneg i
   have hlI:(i:Int)<(s.size:Int):=by omega
   simp only[tt,seval,hd,Nat.mul_one,hlt,hi0]
   refine aa (fun h=>?_) (fun h=>?_)
   ·simp only[tt,seval,h4,Nat.mul_one,hi0,hlI]
    simp only[decide_eq_true_eq] at h
    refine aa (fun h'=>?_) (fun h'=>?_)
    ·rw[ax (n:=(i:Int)+1) (by omega) (by omega),IntWalk.u8_in ((l[i].toNat:Int)-97) ⟨by omega,by omega⟩,IntWalk.u8_in _ ⟨by omega,by omega⟩,show (l[i].toNat:Int)-97+65=l[i].toNat-32 by omega,<-wQ (by omega) (by omega),pz hlt',pA (by omega)]
     exact⟨by rw[fH,ig];omega,_,none,ac rfl (ak _),al _,⟨i+1,rfl,by omega,rfl,rfl⟩,by simp only[aU];omega⟩
    ·rw[dk i (by omega)]
     have hsame:=mD (l:=l) (i:=i) (by omega) (sk fun h1=>by omega)
     exact⟨_,none,ac rfl (ak _),al _,⟨i+1,rfl,by omega,congrArg (fun x=>[(7,O.arr 5 s.size (aO x) none)]) hsame,rfl⟩,by simp only[aU];omega⟩
   ·simp only[tt,seval,h4,Nat.mul_one,hi0,hlI]
    rw[dk i (by omega)]
    have hsame:=mD (l:=l) (i:=i) (by omega) (sk fun h1=>by simp only[decide_eq_false_iff_not] at h;omega)
    exact⟨_,none,ac rfl (ak _),al _,⟨i+1,rfl,by omega,congrArg (fun x=>[(7,O.arr 5 s.size (aO x) none)]) hsame,rfl⟩,by simp only[aU];omega⟩
  ·have:i=s.size:=by omega
   subst this
   refine⟨by kernel_rfl,by simp only[maxLen];omega,r9 l s.size,by rw[ig];exact hll,rfl,?_⟩
   simp only[tt,seval]
   exact⟨_,_,iQ (by rw[<-hll,wP,hl];rfl),ai rfl⟩
def srow (s:ByteArray):List D:=[str s]
theorem dM (n:ByteArray):(srow n).length=1:=rfl
theorem ji (v:ByteArray) (r:List D):srow v++r≠[]:=fun h=>by cases h
def kws:List ByteArray:=[⟨#[83,69,76,69,67,84]⟩,⟨#[68,73,83,84,73,78,67,84]⟩,⟨#[70,82,79,77]⟩,⟨#[74,79,73,78]⟩,⟨#[79,78]⟩,⟨#[87,72,69,82,69]⟩,⟨#[79,82,68,69,82]⟩,⟨#[66,89]⟩,⟨#[65,83,67]⟩,⟨#[68,69,83,67]⟩,⟨#[76,73,77,73,84]⟩,⟨#[65,83]⟩,⟨#[65,78,68]⟩,⟨#[79,82]⟩,⟨#[78,79,84]⟩,⟨#[73,83]⟩,⟨#[73,78]⟩,⟨#[66,69,84,87,69,69,78]⟩,⟨#[69,88,73,83,84,83]⟩,⟨#[78,85,76,76]⟩,⟨#[84,82,85,69]⟩,⟨#[70,65,76,83,69]⟩,⟨#[73,78,83,69,82,84]⟩,⟨#[73,78,84,79]⟩,⟨#[86,65,76,85,69,83]⟩,⟨#[85,80,68,65,84,69]⟩,⟨#[83,69,84]⟩,⟨#[68,69,76,69,84,69]⟩]
def oD:List ByteArray:=⟨#[]⟩::kws
theorem C3:List.range 29=[0,1,2,3,4,5,6,7,8,9,10,11,12,13,14,15,16,17,18,19,20,21,22,23,24,25,26,27,28]:=rfl
theorem Eo (α:Type) (a:α):List.replicate 29 a=[a,a,a,a,a,a,a,a,a,a,a,a,a,a,a,a,a,a,a,a,a,a,a,a,a,a,a,a,a]:=rfl
theorem ra:Cl Tryz.prog 224 [] [] fun r _=>r = .c (.sl 29 (oD.flatMap srow) none):=by
 refine ae ab false Tryz.func224 rfl (by kernel_rfl) ?_
 simp only[tt,seval,Tryz.f224,C3,Eo]
 refine⟨_,[],rfl,am ?_⟩
 simp only[tt,seval,oD,kws,srow]
theorem wR {α:Type} {l:List α} {p:α->Bool} {i:Nat} (h:i<l.length) (hp:p l[i]=true) (hn:∀j (hj:j<i),p (l[j]'(by omega))=false):l.findIdx p=i:=(List.findIdx_eq h).2 ⟨hp,hn⟩
theorem sm {α:Type} {l:List α} {p:α->Bool} (hn:∀j (hj:j<l.length),p l[j]=false):l.findIdx p=l.length:=List.findIdx_eq_length_of_false fun x hx=>by
 obtain⟨j,hj,rfl⟩:=List.mem_iff_getElem.1 hx
 exact hn j hj
def mE (f:ByteArray) (l:List ByteArray):Int:=if l.findIdx (fun w=>decide (w=f))<l.length then l.findIdx (fun w=>decide (w=f)) else -1
def l4 (s:ByteArray):Int:=mE (bL s) kws+1
theorem wS (l:List ByteArray) (f:ByteArray):Cl Tryz.prog 277 [.c (.sl l.length (l.flatMap srow) none),vs f] [] fun r _=>r=vi (mE f l):=by
 refine ae ab false Tryz.func277 rfl (by kernel_rfl) ?_
 simp only[Tryz.f277,tt,seval]
 refine fun _=>?_
 refine dLoop.intro (fun f' L p=>∃i:Nat,f' 8=vi i/\i<=l.length/\(∀j (hj:j<l.length),j<i->l[j]≠f)/\L=[]/\p=none) (fun f' _ _=>(l.length-aU (f' 8)).toNat) [] none ⟨ak _,al _,?_⟩ ?_
 ·simp only[tt,seval]
  exact⟨0,rfl,by omega,fun j _ h=>absurd h (Nat.not_lt_zero _)⟩
 ·rintro g L p ⟨i,h8,hi,hn,rfl,rfl⟩
  simp only[tt,seval] at h8
  simp only[tt,seval,h8,Int.ofNat_lt]
  refine aa (fun hlt=>?_) (fun hge=>?_)
  ·refine⟨by omega,by omega,_,aF dM (ay hlt),ji _ _,?_⟩
   simp only[tt,seval,h8,srow]
   refine aa (fun he=>?_) (fun he=>?_)
   ·refine⟨_,_,gB ?_,ai rfl⟩
    rw[mE,wR hlt (by simp [he]) (fun j hj=>by simpa using hn j (by omega) hj),if_pos hlt]
   ·rw[dk i (by omega)]
    exact⟨[],none,ak _,al _,⟨i+1,rfl,by omega,fun j hj hji=>by
     by_cases e:j=i
     ·subst e;exact fun h=>he h.symm
     ·exact hn j hj (by omega),rfl,rfl⟩,by simp only[aU];omega⟩
  ·refine⟨_,_,gB ?_,ai rfl⟩
   rw[mE,sm (fun j hj=>by simpa using hn j hj (by omega)),if_neg (by omega)]
theorem jj (s:ByteArray):(bL s).size=s.size:=by
 show (List.toArray _).size=_
 simp
theorem rb:∀w∈kws,w.size<=8:=by decide
theorem rc:oD.length=29:=rfl
theorem mF:kws.length=28:=rfl
theorem vI {j:Nat} (h:j+1<oD.length):oD[j+1]=kws[j]'(by simp only[rc] at h;simp only[mF];omega):=rfl
theorem tO {s:ByteArray} (h:8<s.size):l4 s=0:=by
 unfold l4 mE
 rw[sm (l:=kws) (p:=fun w=>decide (w=bL s)) (fun j hj=>ao fun e=>by
  have:=rb _ (aI hj)
  rw[e,jj] at this
  omega),if_neg (Nat.lt_irrefl _)]
 rfl
theorem so (s:ByteArray) (hs:s.size<=1048576):Cl Tryz.prog 176 [vs s] [] fun r _=>r=vi (l4 s):=by
 refine ae ab false Tryz.func176 rfl (by kernel_rfl) ?_
 simp only[Tryz.f176,tt,seval]
 refine fun _=>aa (fun hlt=>?_) (fun hge=>?_)
 ·exact⟨_,_,gB (tO (by omega)).symm,ai rfl⟩
 ·skip
  refine cZ (vH s hs) ?_ ?_<;>simp only[tt,seval]
  refine cZ (ra) ?_ ?_<;>simp only[tt,seval]
  refine dLoop.intro (fun f' L p=>∃i:Nat,f' 5=vi i/\1<=i/\i<=29/\(∀j (hj:j<kws.length),j+1<i->kws[j]≠bL s)/\L=[]/\p=none) (fun f' _ _=>(29-aU (f' 5)).toNat) [] none ⟨ak _,al _,?_⟩ ?_
  ·simp only[tt,seval]
   exact⟨1,rfl,by omega,by omega,fun j _ h=>absurd h (by omega)⟩
  ·rintro g L p ⟨i,h8,hi1,hi,hn,rfl,rfl⟩
   simp only[tt,seval] at h8
   simp only[tt,seval,h8]
   refine aa (fun hlt=>?_) (fun hge=>?_)
   ·have hlt':i<oD.length:=by rw[rc];omega
    obtain⟨j,rfl⟩:∃j,i=j+1:=⟨i-1,by omega⟩
    have hj:j<kws.length:=by rw[mF];omega
    refine⟨by omega,by omega,_,aF dM (ay hlt'),ji _ _,?_⟩
    rw[vI hlt']
    simp only[tt,seval,h8,srow]
    refine aa (fun he=>?_) (fun he=>?_)
    ·refine⟨_,_,gB ?_,ai rfl⟩
     rw[l4,mE,wR hj (by simp [he]) (fun j' hj'=>by simpa using hn j' (by omega) (by omega)),if_pos hj]
     omega
    ·rw[ax (n:=((j+1:Nat):Int)+1) (by omega) (by omega)]
     exact⟨[],none,ak _,al _,⟨j+2,rfl,by omega,by omega,fun j' hj' hji=>by
      by_cases e:j'=j
      ·subst e;exact he
      ·exact hn j' hj' (by omega),rfl,rfl⟩,by simp only[aU];omega⟩
   ·refine⟨_,_,gB ?_,ai rfl⟩
    rw[l4,mE,sm (fun j hj=>by simpa using hn j hj (by rw[mF] at hj;omega)),if_neg (by omega)]
    rfl
end Go.Proofs.YteffjmaadkkmeaaGreatDoor
namespace Go.Proofs.YteffjmaadkkmeaaGreatDoor
open Go Go.Shelf Go.Proofs
def Tryz.lays146_ren:Go.Shelf.Ren:=⟨fun|146=>297|221=>321|268=>333|138=>334|143=>231|195=>345|197=>346|218=>347|219=>275|260=>355|217=>273|225=>312|224=>313|267=>314|266=>311|314=>330|n=>n,fun|9=>9|31=>49|3=>3|4=>4|0=>0|105=>282|21=>21|5=>5|46=>251|119=>291|139=>294|138=>293|146=>268|51=>267|n=>n,fun|1=>0|3=>4|4=>5|n=>n⟩
theorem Tryz.lays146:Go.Proofs.Lays.n146 Tryz.prog Tryz.lays146_ren:={
 mixed:=by kernel_rfl
 f138:=Tryz.func334.trans (congrArg some (by kernel_rfl))
 f143:=Tryz.func231.trans (congrArg some (by kernel_rfl))
 f146:=Tryz.func297.trans (congrArg some (by kernel_rfl))
 f195:=Tryz.func345.trans (congrArg some (by kernel_rfl))
 f197:=Tryz.func346.trans (congrArg some (by kernel_rfl))
 f217:=Tryz.func273.trans (congrArg some (by kernel_rfl))
 f218:=Tryz.func347.trans (congrArg some (by kernel_rfl))
 f219:=Tryz.func275.trans (congrArg some (by kernel_rfl))
 f221:=Tryz.func321.trans (congrArg some (by kernel_rfl))
 f224:=Tryz.func313.trans (congrArg some (by kernel_rfl))
 f225:=Tryz.func312.trans (congrArg some (by kernel_rfl))
 f260:=Tryz.func355.trans (congrArg some (by kernel_rfl))
 f266:=Tryz.func311.trans (congrArg some (by kernel_rfl))
 f267:=Tryz.func314.trans (congrArg some (by kernel_rfl))
 f268:=Tryz.func333.trans (congrArg some (by kernel_rfl))
 f314:=Tryz.func330.trans (congrArg some (by kernel_rfl))
 t0:=Tryz.underlying0
 a0:=Tryz.isAgg0
 z0:=Tryz.sizeOf0
 v0:=Tryz.zeroValue0
 t3:=Tryz.underlying3
 a3:=Tryz.isAgg3
 z3:=Tryz.sizeOf3
 v3:=Tryz.zeroValue3
 t4:=Tryz.underlying4
 a4:=Tryz.isAgg4
 z4:=Tryz.sizeOf4
 v4:=Tryz.zeroValue4
 t5:=Tryz.underlying5
 a5:=Tryz.isAgg5
 z5:=Tryz.sizeOf5
 v5:=Tryz.zeroValue5
 t9:=Tryz.underlying9
 a9:=Tryz.isAgg9
 z9:=Tryz.sizeOf9
 v9:=Tryz.zeroValue9
 t21:=Tryz.underlying21
 a21:=Tryz.isAgg21
 z21:=Tryz.sizeOf21
 v21:=Tryz.zeroValue21
 t31:=Tryz.underlying49
 a31:=Tryz.isAgg49
 z31:=Tryz.sizeOf49
 v31:=Tryz.zeroValue49
 t46:=Tryz.underlying251
 a46:=Tryz.isAgg251
 z46:=Tryz.sizeOf251
 v46:=Tryz.zeroValue251
 t51:=Tryz.underlying267
 a51:=Tryz.isAgg267
 z51:=Tryz.sizeOf267
 v51:=Tryz.zeroValue267
 t105:=Tryz.underlying282
 a105:=Tryz.isAgg282
 z105:=Tryz.sizeOf282
 v105:=Tryz.zeroValue282
 t119:=Tryz.underlying291
 a119:=Tryz.isAgg291
 z119:=Tryz.sizeOf291
 t138:=Tryz.underlying293
 a138:=Tryz.isAgg293
 z138:=Tryz.sizeOf293
 v138:=Tryz.zeroValue293
 t139:=Tryz.underlying294
 a139:=Tryz.isAgg294
 z139:=Tryz.sizeOf294
 v139:=Tryz.zeroValue294
 t146:=Tryz.underlying268
 a146:=Tryz.isAgg268
 z146:=Tryz.sizeOf268
 v146:=Tryz.zeroValue268
 g1:=by kernel_rfl
 g3:=by kernel_rfl
 g4:=by kernel_rfl }
def Tryz.lays155_ren:Go.Shelf.Ren:=⟨fun|155=>332|154=>344|138=>334|165=>354|143=>231|166=>252|197=>346|169=>255|195=>345|218=>347|240=>289|241=>362|219=>275|260=>355|276=>319|277=>363|217=>273|225=>312|224=>313|267=>314|266=>311|314=>330|n=>n,fun|9=>9|3=>3|4=>4|72=>223|0=>0|76=>204|105=>282|21=>21|5=>5|70=>221|20=>20|37=>119|75=>203|127=>236|164=>255|46=>251|119=>291|139=>294|138=>293|146=>268|51=>267|80=>166|n=>n,fun|1=>0|3=>4|4=>5|n=>n⟩
theorem Tryz.lays155:Go.Proofs.Lays.n155 Tryz.prog Tryz.lays155_ren:={
 mixed:=by kernel_rfl
 f138:=Tryz.func334.trans (congrArg some (by kernel_rfl))
 f143:=Tryz.func231.trans (congrArg some (by kernel_rfl))
 f154:=Tryz.func344.trans (congrArg some (by kernel_rfl))
 f155:=Tryz.func332.trans (congrArg some (by kernel_rfl))
 f165:=Tryz.func354.trans (congrArg some (by kernel_rfl))
 f166:=Tryz.func252.trans (congrArg some (by kernel_rfl))
 f169:=Tryz.func255.trans (congrArg some (by kernel_rfl))
 f195:=Tryz.func345.trans (congrArg some (by kernel_rfl))
 f197:=Tryz.func346.trans (congrArg some (by kernel_rfl))
 f217:=Tryz.func273.trans (congrArg some (by kernel_rfl))
 f218:=Tryz.func347.trans (congrArg some (by kernel_rfl))
 f219:=Tryz.func275.trans (congrArg some (by kernel_rfl))
 f224:=Tryz.func313.trans (congrArg some (by kernel_rfl))
 f225:=Tryz.func312.trans (congrArg some (by kernel_rfl))
 f240:=Tryz.func289.trans (congrArg some (by kernel_rfl))
 f241:=Tryz.func362.trans (congrArg some (by kernel_rfl))
 f260:=Tryz.func355.trans (congrArg some (by kernel_rfl))
 f266:=Tryz.func311.trans (congrArg some (by kernel_rfl))
 f267:=Tryz.func314.trans (congrArg some (by kernel_rfl))
 f276:=Tryz.func319.trans (congrArg some (by kernel_rfl))
 f277:=Tryz.func363.trans (congrArg some (by kernel_rfl))
 f314:=Tryz.func330.trans (congrArg some (by kernel_rfl))
 t0:=Tryz.underlying0
 a0:=Tryz.isAgg0
 z0:=Tryz.sizeOf0
 v0:=Tryz.zeroValue0
 t3:=Tryz.underlying3
 a3:=Tryz.isAgg3
 z3:=Tryz.sizeOf3
 v3:=Tryz.zeroValue3
 t4:=Tryz.underlying4
 a4:=Tryz.isAgg4
 z4:=Tryz.sizeOf4
 v4:=Tryz.zeroValue4
 t5:=Tryz.underlying5
 a5:=Tryz.isAgg5
 z5:=Tryz.sizeOf5
 v5:=Tryz.zeroValue5
 t9:=Tryz.underlying9
 a9:=Tryz.isAgg9
 z9:=Tryz.sizeOf9
 v9:=Tryz.zeroValue9
 t20:=Tryz.underlying20
 a20:=Tryz.isAgg20
 z20:=Tryz.sizeOf20
 v20:=Tryz.zeroValue20
 t21:=Tryz.underlying21
 a21:=Tryz.isAgg21
 z21:=Tryz.sizeOf21
 v21:=Tryz.zeroValue21
 t37:=Tryz.underlying119
 a37:=Tryz.isAgg119
 z37:=Tryz.sizeOf119
 v37:=Tryz.zeroValue119
 t46:=Tryz.underlying251
 a46:=Tryz.isAgg251
 z46:=Tryz.sizeOf251
 v46:=Tryz.zeroValue251
 t51:=Tryz.underlying267
 a51:=Tryz.isAgg267
 z51:=Tryz.sizeOf267
 v51:=Tryz.zeroValue267
 t70:=Tryz.underlying221
 a70:=Tryz.isAgg221
 z70:=Tryz.sizeOf221
 v70:=Tryz.zeroValue221
 t72:=Tryz.underlying223
 a72:=Tryz.isAgg223
 z72:=Tryz.sizeOf223
 v72:=Tryz.zeroValue223
 t75:=Tryz.underlying203
 a75:=Tryz.isAgg203
 z75:=Tryz.sizeOf203
 v75:=Tryz.zeroValue203
 t76:=Tryz.underlying204
 a76:=Tryz.isAgg204
 z76:=Tryz.sizeOf204
 v76:=Tryz.zeroValue204
 t105:=Tryz.underlying282
 a105:=Tryz.isAgg282
 z105:=Tryz.sizeOf282
 v105:=Tryz.zeroValue282
 t119:=Tryz.underlying291
 a119:=Tryz.isAgg291
 z119:=Tryz.sizeOf291
 t127:=Tryz.underlying236
 a127:=Tryz.isAgg236
 z127:=Tryz.sizeOf236
 v127:=Tryz.zeroValue236
 t138:=Tryz.underlying293
 a138:=Tryz.isAgg293
 z138:=Tryz.sizeOf293
 v138:=Tryz.zeroValue293
 t139:=Tryz.underlying294
 a139:=Tryz.isAgg294
 z139:=Tryz.sizeOf294
 v139:=Tryz.zeroValue294
 t146:=Tryz.underlying268
 a146:=Tryz.isAgg268
 z146:=Tryz.sizeOf268
 v146:=Tryz.zeroValue268
 t164:=Tryz.underlying255
 a164:=Tryz.isAgg255
 z164:=Tryz.sizeOf255
 v164:=Tryz.zeroValue255
 g1:=by kernel_rfl
 g3:=by kernel_rfl
 g4:=by kernel_rfl }
theorem Tryz.Builder_Extra_155:Builder.Extra Tryz.prog Tryz.lays155_ren:={
 sizeBuilder:=by kernel_rfl
 liesBuilder:=by kernel_rfl
 t5:=Tryz.underlying5
 a5:=Tryz.isAgg5
 z5:=Tryz.sizeOf5
 v5:=Tryz.zeroValue5
 infoByte:=by kernel_rfl
 cellsByte:=by kernel_rfl
 sizeByte:=by kernel_rfl
 neB5:=by decide }
def Tryz.laysM171_ren:Go.Shelf.Ren:=⟨fun|171=>271|243=>310|246=>329|283=>340|284=>341|285=>342|286=>343|129=>350|317=>349|318=>351|319=>352|320=>353|337=>360|338=>361|n=>n,fun|3=>3|9=>9|2=>2|4=>4|171=>276|0=>0|53=>260|37=>119|5=>5|173=>279|212=>285|51=>267|20=>20|213=>286|46=>251|232=>295|233=>296|n=>n,fun|17=>3|18=>6|19=>7|n=>n⟩
theorem Tryz.laysM171:Go.Proofs.LaysM.n171 Tryz.prog Tryz.laysM171_ren:={
 mixed:=by kernel_rfl
 f129:=Tryz.func350.trans (congrArg some (by kernel_rfl))
 f171:=Tryz.func271.trans (congrArg some (by kernel_rfl))
 f243:=Tryz.func310.trans (congrArg some (by kernel_rfl))
 f246:=Tryz.func329.trans (congrArg some (by kernel_rfl))
 f283:=Tryz.func340.trans (congrArg some (by kernel_rfl))
 f284:=Tryz.func341.trans (congrArg some (by kernel_rfl))
 f285:=Tryz.func342.trans (congrArg some (by kernel_rfl))
 f286:=Tryz.func343.trans (congrArg some (by kernel_rfl))
 f317:=Tryz.func349.trans (congrArg some (by kernel_rfl))
 f318:=Tryz.func351.trans (congrArg some (by kernel_rfl))
 f319:=Tryz.func352.trans (congrArg some (by kernel_rfl))
 f320:=Tryz.func353.trans (congrArg some (by kernel_rfl))
 f337:=Tryz.func360.trans (congrArg some (by kernel_rfl))
 f338:=Tryz.func361.trans (congrArg some (by kernel_rfl))
 t0:=Tryz.underlying0
 a0:=Tryz.isAgg0
 z0:=Tryz.sizeOf0
 v0:=Tryz.zeroValue0
 t2:=Tryz.underlying2
 a2:=Tryz.isAgg2
 z2:=Tryz.sizeOf2
 v2:=Tryz.zeroValue2
 t3:=Tryz.underlying3
 a3:=Tryz.isAgg3
 z3:=Tryz.sizeOf3
 v3:=Tryz.zeroValue3
 t4:=Tryz.underlying4
 a4:=Tryz.isAgg4
 z4:=Tryz.sizeOf4
 v4:=Tryz.zeroValue4
 t5:=Tryz.underlying5
 a5:=Tryz.isAgg5
 z5:=Tryz.sizeOf5
 v5:=Tryz.zeroValue5
 t9:=Tryz.underlying9
 a9:=Tryz.isAgg9
 z9:=Tryz.sizeOf9
 v9:=Tryz.zeroValue9
 t20:=Tryz.underlying20
 a20:=Tryz.isAgg20
 z20:=Tryz.sizeOf20
 v20:=Tryz.zeroValue20
 t37:=Tryz.underlying119
 a37:=Tryz.isAgg119
 z37:=Tryz.sizeOf119
 v37:=Tryz.zeroValue119
 t46:=Tryz.underlying251
 a46:=Tryz.isAgg251
 z46:=Tryz.sizeOf251
 v46:=Tryz.zeroValue251
 t51:=Tryz.underlying267
 a51:=Tryz.isAgg267
 z51:=Tryz.sizeOf267
 v51:=Tryz.zeroValue267
 t53:=Tryz.underlying260
 a53:=Tryz.isAgg260
 z53:=Tryz.sizeOf260
 v53:=Tryz.zeroValue260
 t171:=Tryz.underlying276
 a171:=Tryz.isAgg276
 z171:=Tryz.sizeOf276
 v171:=Tryz.zeroValue276
 t173:=Tryz.underlying279
 a173:=Tryz.isAgg279
 z173:=Tryz.sizeOf279
 v173:=Tryz.zeroValue279
 t212:=Tryz.underlying285
 a212:=Tryz.isAgg285
 z212:=Tryz.sizeOf285
 v212:=Tryz.zeroValue285
 t213:=Tryz.underlying286
 a213:=Tryz.isAgg286
 z213:=Tryz.sizeOf286
 t232:=Tryz.underlying295
 a232:=Tryz.isAgg295
 z232:=Tryz.sizeOf295
 v232:=Tryz.zeroValue295
 t233:=Tryz.underlying296
 a233:=Tryz.isAgg296
 z233:=Tryz.sizeOf296
 v233:=Tryz.zeroValue296
 g17:=by kernel_rfl
 g18:=by kernel_rfl
 g19:=by kernel_rfl
 i0:=by kernel_rfl
 i2:=by kernel_rfl
 i3:=by kernel_rfl
 i4:=by kernel_rfl
 i5:=by kernel_rfl
 i9:=by kernel_rfl
 i20:=by kernel_rfl
 i37:=by kernel_rfl
 i46:=by kernel_rfl
 i51:=by kernel_rfl
 i53:=by kernel_rfl
 i171:=by kernel_rfl
 i173:=by kernel_rfl
 i212:=by kernel_rfl
 i232:=by kernel_rfl
 i233:=by kernel_rfl
 m17:=by kernel_rfl
 m18:=by kernel_rfl
 m19:=by kernel_rfl }
def Tryz.lays169_ren:Go.Shelf.Ren:=⟨fun|169=>255|n=>n,fun|70=>221|9=>9|0=>0|72=>223|37=>119|127=>236|3=>3|5=>5|n=>n,fun|n=>n⟩
theorem Tryz.lays169:Go.Proofs.Lays.n169 Tryz.prog Tryz.lays169_ren:={
 mixed:=by kernel_rfl
 f169:=Tryz.func255.trans (congrArg some (by kernel_rfl))
 t0:=Tryz.underlying0
 a0:=Tryz.isAgg0
 z0:=Tryz.sizeOf0
 v0:=Tryz.zeroValue0
 t3:=Tryz.underlying3
 a3:=Tryz.isAgg3
 z3:=Tryz.sizeOf3
 v3:=Tryz.zeroValue3
 t9:=Tryz.underlying9
 a9:=Tryz.isAgg9
 z9:=Tryz.sizeOf9
 v9:=Tryz.zeroValue9
 t37:=Tryz.underlying119
 a37:=Tryz.isAgg119
 z37:=Tryz.sizeOf119
 v37:=Tryz.zeroValue119
 t70:=Tryz.underlying221
 a70:=Tryz.isAgg221
 z70:=Tryz.sizeOf221
 v70:=Tryz.zeroValue221
 t72:=Tryz.underlying223
 a72:=Tryz.isAgg223
 z72:=Tryz.sizeOf223
 v72:=Tryz.zeroValue223
 t127:=Tryz.underlying236
 a127:=Tryz.isAgg236
 z127:=Tryz.sizeOf236
 v127:=Tryz.zeroValue236 }
theorem Tryz.Builder_Extra_169:Builder.Extra Tryz.prog Tryz.lays169_ren:={
 sizeBuilder:=by kernel_rfl
 liesBuilder:=by kernel_rfl
 t5:=Tryz.underlying5
 a5:=Tryz.isAgg5
 z5:=Tryz.sizeOf5
 v5:=Tryz.zeroValue5
 infoByte:=by kernel_rfl
 cellsByte:=by kernel_rfl
 sizeByte:=by kernel_rfl
 neB5:=by decide }
def Tryz.laysC172_ren:Go.Shelf.Ren:=⟨fun|172=>226|244=>269|245=>270|247=>305|279=>306|280=>307|281=>308|282=>309|287=>326|316=>327|171=>271|205=>328|321=>338|322=>339|243=>310|246=>329|283=>340|284=>341|285=>342|286=>343|129=>350|317=>349|318=>351|319=>352|320=>353|337=>360|338=>361|n=>n,fun|9=>9|3=>3|75=>203|76=>204|4=>4|5=>5|167=>244|37=>119|0=>0|85=>245|2=>2|168=>247|53=>260|175=>261|46=>251|210=>264|127=>236|145=>275|143=>273|21=>21|171=>276|173=>279|212=>285|51=>267|20=>20|213=>286|232=>295|233=>296|80=>166|n=>n,fun|15=>1|16=>2|17=>3|18=>6|19=>7|n=>n⟩
theorem Tryz.laysC172:Go.Proofs.LaysC.n172 Tryz.prog Tryz.laysC172_ren:={
 mixed:=by kernel_rfl
 f129:=Tryz.func350.trans (congrArg some (by kernel_rfl))
 f171:=Tryz.func271.trans (congrArg some (by kernel_rfl))
 f172:=Tryz.func226.trans (congrArg some (by kernel_rfl))
 f205:=Tryz.func328.trans (congrArg some (by kernel_rfl))
 f243:=Tryz.func310.trans (congrArg some (by kernel_rfl))
 f244:=Tryz.func269.trans (congrArg some (by kernel_rfl))
 f245:=Tryz.func270.trans (congrArg some (by kernel_rfl))
 f246:=Tryz.func329.trans (congrArg some (by kernel_rfl))
 f247:=Tryz.func305.trans (congrArg some (by kernel_rfl))
 f279:=Tryz.func306.trans (congrArg some (by kernel_rfl))
 f280:=Tryz.func307.trans (congrArg some (by kernel_rfl))
 f281:=Tryz.func308.trans (congrArg some (by kernel_rfl))
 f282:=Tryz.func309.trans (congrArg some (by kernel_rfl))
 f283:=Tryz.func340.trans (congrArg some (by kernel_rfl))
 f284:=Tryz.func341.trans (congrArg some (by kernel_rfl))
 f285:=Tryz.func342.trans (congrArg some (by kernel_rfl))
 f286:=Tryz.func343.trans (congrArg some (by kernel_rfl))
 f287:=Tryz.func326.trans (congrArg some (by kernel_rfl))
 f316:=Tryz.func327.trans (congrArg some (by kernel_rfl))
 f317:=Tryz.func349.trans (congrArg some (by kernel_rfl))
 f318:=Tryz.func351.trans (congrArg some (by kernel_rfl))
 f319:=Tryz.func352.trans (congrArg some (by kernel_rfl))
 f320:=Tryz.func353.trans (congrArg some (by kernel_rfl))
 f321:=Tryz.func338.trans (congrArg some (by kernel_rfl))
 f322:=Tryz.func339.trans (congrArg some (by kernel_rfl))
 f337:=Tryz.func360.trans (congrArg some (by kernel_rfl))
 f338:=Tryz.func361.trans (congrArg some (by kernel_rfl))
 t0:=Tryz.underlying0
 a0:=Tryz.isAgg0
 z0:=Tryz.sizeOf0
 v0:=Tryz.zeroValue0
 t2:=Tryz.underlying2
 a2:=Tryz.isAgg2
 z2:=Tryz.sizeOf2
 v2:=Tryz.zeroValue2
 t3:=Tryz.underlying3
 a3:=Tryz.isAgg3
 z3:=Tryz.sizeOf3
 v3:=Tryz.zeroValue3
 t4:=Tryz.underlying4
 a4:=Tryz.isAgg4
 z4:=Tryz.sizeOf4
 v4:=Tryz.zeroValue4
 t5:=Tryz.underlying5
 a5:=Tryz.isAgg5
 z5:=Tryz.sizeOf5
 v5:=Tryz.zeroValue5
 t9:=Tryz.underlying9
 a9:=Tryz.isAgg9
 z9:=Tryz.sizeOf9
 v9:=Tryz.zeroValue9
 t20:=Tryz.underlying20
 a20:=Tryz.isAgg20
 z20:=Tryz.sizeOf20
 v20:=Tryz.zeroValue20
 t21:=Tryz.underlying21
 a21:=Tryz.isAgg21
 z21:=Tryz.sizeOf21
 v21:=Tryz.zeroValue21
 t37:=Tryz.underlying119
 a37:=Tryz.isAgg119
 z37:=Tryz.sizeOf119
 v37:=Tryz.zeroValue119
 t46:=Tryz.underlying251
 a46:=Tryz.isAgg251
 z46:=Tryz.sizeOf251
 v46:=Tryz.zeroValue251
 t51:=Tryz.underlying267
 a51:=Tryz.isAgg267
 z51:=Tryz.sizeOf267
 v51:=Tryz.zeroValue267
 t53:=Tryz.underlying260
 a53:=Tryz.isAgg260
 z53:=Tryz.sizeOf260
 v53:=Tryz.zeroValue260
 t75:=Tryz.underlying203
 a75:=Tryz.isAgg203
 z75:=Tryz.sizeOf203
 v75:=Tryz.zeroValue203
 t76:=Tryz.underlying204
 a76:=Tryz.isAgg204
 z76:=Tryz.sizeOf204
 v76:=Tryz.zeroValue204
 t85:=Tryz.underlying245
 a85:=Tryz.isAgg245
 z85:=Tryz.sizeOf245
 v85:=Tryz.zeroValue245
 t127:=Tryz.underlying236
 a127:=Tryz.isAgg236
 z127:=Tryz.sizeOf236
 v127:=Tryz.zeroValue236
 t143:=Tryz.underlying273
 a143:=Tryz.isAgg273
 z143:=Tryz.sizeOf273
 v143:=Tryz.zeroValue273
 t145:=Tryz.underlying275
 a145:=Tryz.isAgg275
 z145:=Tryz.sizeOf275
 v145:=Tryz.zeroValue275
 t167:=Tryz.underlying244
 a167:=Tryz.isAgg244
 z167:=Tryz.sizeOf244
 v167:=Tryz.zeroValue244
 t168:=Tryz.underlying247
 a168:=Tryz.isAgg247
 z168:=Tryz.sizeOf247
 v168:=Tryz.zeroValue247
 t171:=Tryz.underlying276
 a171:=Tryz.isAgg276
 z171:=Tryz.sizeOf276
 v171:=Tryz.zeroValue276
 t173:=Tryz.underlying279
 a173:=Tryz.isAgg279
 z173:=Tryz.sizeOf279
 v173:=Tryz.zeroValue279
 t175:=Tryz.underlying261
 a175:=Tryz.isAgg261
 z175:=Tryz.sizeOf261
 v175:=Tryz.zeroValue261
 t210:=Tryz.underlying264
 a210:=Tryz.isAgg264
 z210:=Tryz.sizeOf264
 v210:=Tryz.zeroValue264
 t212:=Tryz.underlying285
 a212:=Tryz.isAgg285
 z212:=Tryz.sizeOf285
 v212:=Tryz.zeroValue285
 t213:=Tryz.underlying286
 a213:=Tryz.isAgg286
 z213:=Tryz.sizeOf286
 t232:=Tryz.underlying295
 a232:=Tryz.isAgg295
 z232:=Tryz.sizeOf295
 v232:=Tryz.zeroValue295
 t233:=Tryz.underlying296
 a233:=Tryz.isAgg296
 z233:=Tryz.sizeOf296
 v233:=Tryz.zeroValue296
 g15:=by kernel_rfl
 g16:=by kernel_rfl
 g17:=by kernel_rfl
 g18:=by kernel_rfl
 g19:=by kernel_rfl
 t80:=Tryz.underlying166
 a80:=Tryz.isAgg166
 z80:=Tryz.sizeOf166
 v80:=Tryz.zeroValue166
 i0:=by kernel_rfl
 i2:=by kernel_rfl
 i3:=by kernel_rfl
 i4:=by kernel_rfl
 i5:=by kernel_rfl
 i9:=by kernel_rfl
 i20:=by kernel_rfl
 i21:=by kernel_rfl
 i37:=by kernel_rfl
 i46:=by kernel_rfl
 i51:=by kernel_rfl
 i53:=by kernel_rfl
 i75:=by kernel_rfl
 i76:=by kernel_rfl
 i80:=by kernel_rfl
 i85:=by kernel_rfl
 i127:=by kernel_rfl
 i143:=by kernel_rfl
 i145:=by kernel_rfl
 i167:=by kernel_rfl
 i168:=by kernel_rfl
 i171:=by kernel_rfl
 i173:=by kernel_rfl
 i175:=by kernel_rfl
 i210:=by kernel_rfl
 i212:=by kernel_rfl
 i232:=by kernel_rfl
 i233:=by kernel_rfl
 m15:=by kernel_rfl
 m16:=by kernel_rfl
 m17:=by kernel_rfl
 m18:=by kernel_rfl
 m19:=by kernel_rfl
 c0:=by kernel_rfl
 c2:=by kernel_rfl
 c3:=by kernel_rfl
 c4:=by kernel_rfl
 c5:=by kernel_rfl
 c9:=by kernel_rfl
 c20:=by kernel_rfl
 c21:=by kernel_rfl
 c37:=by kernel_rfl
 c46:=by kernel_rfl
 c51:=by kernel_rfl
 c53:=by kernel_rfl
 c75:=by kernel_rfl
 c76:=by kernel_rfl
 c80:=by kernel_rfl
 c85:=by kernel_rfl
 c127:=by kernel_rfl
 c143:=by kernel_rfl
 c145:=by kernel_rfl
 c167:=by kernel_rfl
 c168:=by kernel_rfl
 c171:=by kernel_rfl
 c173:=by kernel_rfl
 c175:=by kernel_rfl
 c210:=by kernel_rfl
 c212:=by kernel_rfl
 c213:=by kernel_rfl
 c232:=by kernel_rfl
 c233:=by kernel_rfl }
end Go.Proofs.YteffjmaadkkmeaaGreatDoor
set_option maxRecDepth 8000
namespace Go.Proofs.YteffjmaadkkmeaaGreatDoor
open Go Go.Dv
open Go.Vc (D cY d3 cN bk)
open Go.RowKit (Below)
theorem Dx {w:World} {own:Nat->Prop} (h:GlW w own):∃ty lh,w.heap[3]?=some (.cells (Lib.pow10Tab.map fun z=>Value.int .u64 z).toArray ty lh):=by
 obtain⟨_,cs,ty,lh,h2,h3⟩:=h _ (List.mem_cons_self)
 exact⟨ty,lh,by rw[<-h3];exact h2⟩
theorem sq {w:World} {own:Nat->Prop} (h:GlW w own):∃m,w.cell? ⟨0,0,none⟩=some (.int .i64 m):=by
 obtain⟨_,cs,ty,lh,h2,m,h3⟩:=h _ (List.mem_cons_of_mem _ (List.mem_cons_self))
 exact⟨m,by simp only[World.cell?,h2];exact h3⟩
theorem vJ (w:World) (k:Nat) (os:Array Obj):Below w.heap.size w (Go.Sort.grow (w.drewN k) os):=
 ⟨rfl,rfl,rfl,by simp [Go.Sort.grow,World.drewN],fun i hi=>by simp [Go.Sort.grow,World.drewN,Array.getElem?_append,hi]⟩
def dV (n:Int):ByteArray:=⟨(Lib.itoa n).toArray⟩
theorem eL (u:Nat):∀k,u<10 ^ (k+1)->(Lib.decDigits u).length<=k+1:=by
 intro k
 induction k generalizing u with
 |zero=>intro h;rw[Lib.decDigits,dif_pos (by simpa using h)];simp
 |succ k ih=>
  intro h
  rw[Lib.decDigits]
  split
  ·simp
  ·have:=ih (u / 10) (by rw[Nat.pow_succ] at h;omega)
   simp only[aA,List.length_singleton];omega
theorem pB {n:Int} (h0 : -9223372036854775808<=n) (h1:n<=9223372036854775807):(Lib.itoa n).length<=20:=by
 unfold Lib.itoa
 split
 ·have:=eL n.natAbs 18 (by omega)
  simp only[List.length_cons];omega
 ·have:=eL n.toNat 18 (by omega)
  omega
theorem vK {n:Int} (h0 : -9223372036854775808<=n) (h1:n<=9223372036854775807):(dV n).size<=20:=by
 show (List.toArray _).size<=20
 simpa using pB h0 h1
theorem Dy (n:Int) (h0 : -9223372036854775808<=n) (h1:n<=9223372036854775807):Cl Tryz.prog 271 [vi n] [] fun r _=>r=vs (dV n):=
 Cl.ofVals (by kernel_rfl) [.int .i64 n] fun w hg=>by
  obtain⟨ty,lh,hp⟩:=Dx hg
  refine (Any.strconv_Itoa Tryz.laysM171 n h0 h1 w ?_).mono ?_
  ·unfold Lib.TabIs World.var?
   rw[show Tryz.prog.globalNamed _=some 3 by kernel_rfl]
   simp only[Option.bind_some,hp]
  ·rintro e w' ⟨rfl,k,os,rfl⟩
   have:=vK h0 h1
   exact⟨_,rfl,by show ByteArray.size _<=maxLen;simp only[maxLen];exact Nat.le_trans this (by decide),rfl,vJ w k os⟩
end Go.Proofs.YteffjmaadkkmeaaGreatDoor
set_option maxRecDepth 8000
namespace Go.Proofs.YteffjmaadkkmeaaGreatDoor
open Go Go.Dv
open Go.Vc (D cY d3 cN bk)
open Go.RowKit (Below)
open Go.Vc (CellF RowF ValsF okV)
def nM:ByteArray:=⟨#[83,69,76,69,67,84,32,68,73,83,84,73,78,67,84,32,70,82,79,77,32,74,79,73,78,32,79,78,32,87,72,69,82,69,32,79,82,68,69,82,32,66,89,32,65,83,67,32,68,69,83,67,32,76,73,77,73,84,32,65,83,32,65,78,68,32,79,82,32,78,79,84,32,73,83,32,73,78,32,66,69,84,87,69,69,78,32,69,88,73,83,84,83,32,78,85,76,76,32,84,82,85,69,32,70,65,76,83,69,32,73,78,83,69,82,84,32,73,78,84,79,32,86,65,76,85,69,83,32,85,80,68,65,84,69,32,83,69,84,32,68,69,76,69,84,69]⟩
theorem y9:Lib.splitB ⟨#[32]⟩ 0 (Lib.countB nM ⟨#[32]⟩) nM=kws:=by decide +kernel
theorem ya:Lib.countB nM ⟨#[32]⟩=27:=by decide +kernel
theorem rd (w:World):∀l:List ByteArray,(∀s∈l,s.size<=maxLen)->ValsF w (l.flatMap srow) (l.map Value.string) []
 | [],_=>rfl
 |s::r,h=>⟨[],[],⟨rfl,rfl,h s (by simp)⟩,rd w r fun x hx=>h x (by simp [hx]),rfl⟩
theorem re (w w':World) (ty:TypeId) (l:List ByteArray) (hl:l≠[]) (hs:∀s∈l,s.size<=maxLen) (hn:l.length<=maxLen) (β:Nat->Option Nat) (hw:w'.heap[w.heap.size]?=some (.cells (l.map Value.string).toArray ty (0,0))) :
 RelS Tryz.prog w' β (fun b=>w.heap.size<=b) (.c (.sl l.length (l.flatMap srow) none)) (.slice (some ⟨w.heap.size,0,none⟩) l.length l.length):=by
 have hrow:RowF w' w.heap.size 0 (l.flatMap srow) []:=(rd w' l hs).row fun j v hj=>by
  rw[cell_of_row w' w.heap.size (0+j) _ _ _ hw];simpa using hj
 refine⟨[w.heap.size],⟨some ⟨w.heap.size,0,none⟩,l.length,rfl,Nat.le_refl _,hn,(fun e=>by cases e),.inr ⟨?_,w.heap.size,0,[],rfl,hrow,rfl⟩⟩,(fun b hb=>by simp at hb;omega),(fun _ e=>by cases e)⟩
 cases l with
 |nil=>exact absurd rfl hl
 |cons s r=>simp [srow]
theorem C4:Cl Tryz.prog 297 [vs nM,vs ⟨#[32]⟩] [] fun r _=>r = .c (.sl 28 (kws.flatMap srow) none):=
 Cl.ofNew (by kernel_rfl) [.string nM,.string ⟨#[32]⟩] fun w hg=>by
  obtain⟨m,hm⟩:=sq hg
  refine (Any.strings_Split Tryz.lays146 (by kernel_rfl) nM ⟨#[32]⟩ m w (by decide) hm (by decide)).mono ?_
  rintro e w' ⟨rfl,rfl⟩
  rw[y9,ya]
  refine⟨_,_,rfl,rfl,by rfl,fun β=>re w _ _ kws (by decide) (fun s hs=>Nat.le_trans (rb s hs) (by decide)) (by decide) β (Go.heap_alloc_new w _),⟨rfl,rfl,rfl,by simp,fun i hi=>Go.heap_alloc_old w _ hi⟩⟩
theorem vL:Cl Tryz.prog 278 [] [] fun r _=>r = .c (.sl 28 (kws.flatMap srow) none):=by
 refine ae ab false Tryz.func278 rfl (by kernel_rfl) ?_
 simp only[tt,seval,Tryz.f278]
 refine hJ C4 ?_ ?_ ?_
 ·decide
 ·simp only[tt,seval]
  rfl
 rintro r rfl
 simp only[tt,seval]
 exact⟨_,_,rfl,ai rfl⟩
theorem mG (s:ByteArray) (hs:s.size<=1048576):Cl Tryz.prog 234 [vs s] [] fun r _=>r=vi (l4 s):=by
 refine ae ab false Tryz.func234 rfl (by kernel_rfl) ?_
 simp only[Tryz.f234,tt,seval]
 refine cZ (vL) ?_ ?_<;>simp only[tt,seval]
 refine cZ (pe s hs) ?_ ?_<;>simp only[tt,seval]
 refine cZ (wS kws (bL s)) ?_ ?_<;>simp only[tt,seval,mF]
 have h1 : -1<=mE (bL s) kws/\mE (bL s) kws<=28:=by
  unfold mE
  have:=mF
  split<;>omega
 rw[ax (n:=mE (bL s) kws+1) (by omega) (by omega)]
 exact⟨_,_,rfl,ai rfl⟩
end Go.Proofs.YteffjmaadkkmeaaGreatDoor
set_option maxRecDepth 8000
namespace Go.Proofs.YteffjmaadkkmeaaGreatDoor
open Go Go.Dv
open Go.Vc (D cY d3 cN bk)
def lJ (b:Int):Bool:=jR b||decide (48<=b/\b<=57)
def eR (s:ByteArray):Bool:=decide (1<=s.size/\s.size<=20)&&(!decide (48<=((s.data.toList.headD 0).toNat:Int)/\((s.data.toList.headD 0).toNat:Int)<=57)&&(decide (l4 s=0)&&s.data.toList.all fun b=>lJ b.toNat))
theorem bV {n:Nat} {d:Option Nat} {K:K0} {f:Rg} {L:Ob} {p:Po} {k:IntKind} {s:ByteArray} {i:Nat} {l:List UInt8} (hl:l=s.data.toList) (hi:i<l.length) :
 bB Tryz.prog n d (Instr.index 9 (.string s) (.int k (i:Int))) K f L p=K (put n f d (.c (.v (.int .u8 (l[i].toNat:Int))))) L p:=by
 subst hl
 have hi':i<s.size:=by rw[<-aG];exact hi
 rw[AK (by kernel_rfl) (by omega) (by omega)]
 congr 6
theorem jY {n:Nat} {d:Option Nat} {K:K0} {f:Rg} {L:Ob} {p:Po} {k:IntKind} {s:ByteArray} {l:List UInt8} (hl:l=s.data.toList) (hi:0<l.length) :
 bB Tryz.prog n d (Instr.index 9 (.string s) (.int k 0)) K f L p=K (put n f d (.c (.v (.int .u8 (l[0].toNat:Int))))) L p:=bV (i:=0) hl hi
theorem pC (s:ByteArray):0<=l4 s:=by unfold l4 mE;split<;>omega
theorem jZ (s:ByteArray) (hs:s.size<=1048576):Cl Tryz.prog 315 [vs s] [] fun r _=>r=vb (eR s):=by
 obtain⟨l,hl⟩:∃l,l=s.data.toList:=⟨_,rfl⟩
 have hll:l.length=s.size:=by rw[hl];exact aG s
 refine ae ab false Tryz.func315 rfl (by kernel_rfl) ?_
 simp only[Tryz.f315,tt,seval]
 refine cZ (gb s) ?_ ?_<;>simp only[tt,seval]
 cases hN:decide (1<=s.size/\s.size<=20) with
 |false=>
  simp only[tt,seval]
  exact⟨_,_,aE (by rw[eR,hN];rfl),ai rfl⟩
 |true=>
  have hN':=of_decide_eq_true hN
  have hp:(0:Int)<(s.size:Int):=by omega
  have hlp:0<l.length:=by omega
  simp only[tt,seval]
  rw[jY hl (by omega)]
  simp only[tt,seval]
  refine cZ (jh l[0].toNat) ?_ ?_<;>simp only[tt,seval]
  have hh:s.data.toList.headD 0=l[0]:=by rw[<-hl];cases l with|nil=>exact absurd hlp (Nat.lt_irrefl _)|cons x r=>rfl
  cases hF:decide ((48:Int)<=(l[0].toNat:Int)/\(l[0].toNat:Int)<=57) with
  |true=>
   simp only[tt,seval]
   exact⟨_,_,aE (by rw[eR,hN,hh,hF];rfl),ai rfl⟩
  |false=>
   simp only[tt,seval]
   refine cZ (so s hs) ?_ ?_<;>simp only[tt,seval]
   have hk:=pC s
   refine aa (fun h=>?_) (fun h=>?_)
   ·exact⟨_,_,aE (by rw[eR,hN,hh,hF,ao (show ¬l4 s=0 by omega)];rfl),ai rfl⟩
   ·have hpn:eR s=l.all fun b=>lJ b.toNat:=by rw[eR,hN,hh,hF,ap (show l4 s=0 by omega),<-hl];rfl
    rw[hpn]
    refine dLoop.intro (fun f' L p=>∃i:Nat,f' 3=vi i/\i<=s.size/\(∀j (hj:j<l.length),j<i->lJ l[j].toNat=true)/\L=[]/\p=none) (fun f' _ _=>(s.size-aU (f' 3)).toNat) [] none ⟨ak _,al _,?_⟩ ?_
    ·simp only[tt,seval]
     exact⟨0,rfl,by omega,fun j _ h=>absurd h (Nat.not_lt_zero _)⟩
    ·rintro g L p ⟨i,h3,hi,hn,rfl,rfl⟩
     simp only[tt,seval] at h3
     simp only[tt,seval,h3,Int.ofNat_lt]
     refine fun _=>aa (fun hlt=>?_) (fun hge=>?_)
     ·have hil:i<l.length:=by omega
      rw[bV hl hil]
      simp only[tt,seval]
      refine cZ (m6 l[i].toNat) ?_ ?_<;>simp only[tt,seval]
      cases hL:jR l[i].toNat with
      |true=>
       simp only[tt,seval,h3]
       rw[dk i (by omega)]
       exact⟨[],none,ak _,al _,⟨i+1,rfl,by omega,fun j hj hji=>by
        by_cases e:j=i
        ·subst e;rw[lJ,hL];rfl
        ·exact hn j hj (by omega),rfl,rfl⟩,by simp only[aU];omega⟩
      |false=>
       simp only[tt,seval,h3]
       rw[bV hl hil]
       simp only[tt,seval]
       refine cZ (jh l[i].toNat) ?_ ?_<;>simp only[tt,seval,h3]
       refine aa (fun h=>?_) (fun h=>?_)
       ·simp only[Bool.not_eq_true',decide_eq_false_iff_not] at h
        refine⟨_,_,aE ?_,ai rfl⟩
        refine (Bool.eq_false_iff.2 fun e=>?_).symm
        have:=List.all_eq_true.1 e _ (aI hil)
        rw[lJ,hL,Bool.false_or,decide_eq_true_eq] at this
        exact h this
       ·simp only[Bool.not_eq_false',decide_eq_true_eq] at h
        rw[dk i (by omega)]
        exact⟨[],none,ak _,al _,⟨i+1,rfl,by omega,fun j hj hji=>by
         by_cases e:j=i
         ·subst e;rw[lJ,hL,Bool.false_or,decide_eq_true_eq];omega
         ·exact hn j hj (by omega),rfl,rfl⟩,by simp only[aU];omega⟩
     ·refine⟨_,_,aE ?_,ai rfl⟩
      refine (List.all_eq_true.2 fun x hx=>?_).symm
      obtain⟨j,hj,rfl⟩:=List.mem_iff_getElem.1 hx
      exact hn j hj (by omega)
theorem jk (s:ByteArray) (hs:s.size<=1048576):Cl Tryz.prog 292 [vs s] [] fun r _=>r=vb (eR s):=by
 obtain⟨l,hl⟩:∃l,l=s.data.toList:=⟨_,rfl⟩
 have hll:l.length=s.size:=by rw[hl];exact aG s
 refine ae ab false Tryz.func292 rfl (by kernel_rfl) ?_
 simp only[Tryz.f292,tt,seval]
 refine cZ (er s) ?_ ?_<;>simp only[tt,seval]
 cases hN:decide (1<=s.size/\s.size<=20) with
 |false=>
  simp only[tt,seval]
  exact⟨_,_,aE (by rw[eR,hN];rfl),ai rfl⟩
 |true=>
  have hN':=of_decide_eq_true hN
  have hp:(0:Int)<(s.size:Int):=by omega
  have hlp:0<l.length:=by omega
  simp only[tt,seval]
  rw[jY hl (by omega)]
  simp only[tt,seval]
  refine cZ (kZ l[0].toNat) ?_ ?_<;>simp only[tt,seval]
  have hh:s.data.toList.headD 0=l[0]:=by rw[<-hl];cases l with|nil=>exact absurd hlp (Nat.lt_irrefl _)|cons x r=>rfl
  have hsp:0<s.size:=by omega
  cases hF:decide ((48:Int)<=(l[0].toNat:Int)/\(l[0].toNat:Int)<=57) with
  |true=>
   simp only[tt,seval]
   exact⟨_,_,aE (by rw[eR,hN,hh,hF];rfl),ai rfl⟩
  |false=>
   simp only[tt,seval]
   refine cZ (mG s hs) ?_ ?_<;>simp only[tt,seval]
   have hk:=pC s
   refine aa (fun h=>?_) (fun h=>?_)
   ·exact⟨_,_,aE (by rw[eR,hN,hh,hF,ao (show ¬l4 s=0 from by simpa using h)];rfl),ai rfl⟩
   ·have hpn:eR s=l.all fun b=>lJ b.toNat:=by rw[eR,hN,hh,hF,ap (show l4 s=0 from by simpa using h),<-hl];rfl
    rw[hpn]
    refine fun _=>?_
    refine dLoop.intro (fun f' L p=>∃i:Nat,f' 19=vi i/\i<=s.size/\(∀j (hj:j<l.length),j<i->lJ l[j].toNat=true)/\L=[]/\p=none) (fun f' _ _=>(s.size-aU (f' 19)).toNat) [] none ⟨ak _,al _,?_⟩ ?_
    ·simp only[tt,seval]
     exact⟨0,rfl,by omega,fun j _ h=>absurd h (Nat.not_lt_zero _)⟩
    ·rintro g L p ⟨i,h3,hi,hn,rfl,rfl⟩
     simp only[tt,seval] at h3
     simp only[tt,seval,h3,Int.ofNat_lt]
     refine aa (fun hlt=>?_) (fun hge=>?_)
     ·have hil:i<l.length:=by omega
      rw[bV hl hil]
      simp only[tt,seval]
      refine cZ (py l[i].toNat) ?_ ?_<;>simp only[tt,seval,h3]
      refine aa (fun h=>?_) (fun h=>?_)
      ·refine⟨_,_,aE ?_,ai rfl⟩
       refine (Bool.eq_false_iff.2 fun e=>?_).symm
       have:=List.all_eq_true.1 e _ (aI hil)
       rw[lJ] at this
       rw[this] at h;cases h
      ·rw[dk i (by omega)]
       exact⟨[],none,ak _,al _,⟨i+1,rfl,by omega,fun j hj hji=>by
        by_cases e:j=i
        ·subst e;rw[lJ];simpa only[Bool.not_eq_false'] using h
        ·exact hn j hj (by omega),rfl,rfl⟩,by simp only[aU];omega⟩
     ·refine⟨_,_,aE ?_,ai rfl⟩
      refine (List.all_eq_true.2 fun x hx=>?_).symm
      obtain⟨j,hj,rfl⟩:=List.mem_iff_getElem.1 hx
      exact hn j hj (by omega)
def eb (c:UInt8) (l:List UInt8):List UInt8:=l.flatMap fun b=>if b=c then [c,c] else [b]
def jl (c:UInt8) (s:ByteArray):ByteArray:=⟨(c::(eb c s.data.toList++[c])).toArray⟩
theorem jm (c:UInt8) (l:List UInt8):(eb c l).length<=2*l.length:=by
 induction l with
 |nil=>simp [eb]
 |cons b r ih=>
  unfold eb at *
  rw[List.flatMap_cons,aA,List.length_cons]
  split<;>simp only[List.length_cons,List.length_nil]<;>omega
theorem oE {c:UInt8} {l:List UInt8} {i:Nat} (h:i<l.length):eb c (l.take (i+1))=eb c (l.take i)++(if l[i]=c then [c,c] else [l[i]]):=by
 unfold eb
 rw[List.take_succ_eq_append_getElem h,List.flatMap_append,List.flatMap_cons,List.flatMap_nil,List.append_nil]
theorem dA (l:List UInt8) (b:UInt8):aO l++[D.lit (.int .u8 (b.toNat:Int))]=aO (l++[b]):=by simp [aO]
theorem rf (s:ByteArray) (c:UInt8) (hs:s.size<=1048576):Cl Tryz.prog 316 [vs s,vu (c.toNat:Int)] [] fun r _=>r=vs (jl c s):=by
 obtain⟨l,hl⟩:∃l,l=s.data.toList:=⟨_,rfl⟩
 have hll:l.length=s.size:=by rw[hl];exact aG s
 refine ae ab false Tryz.func316 rfl (by kernel_rfl) ?_
 simp only[Tryz.f316,tt,seval]
 refine dLoop.gh [.ren 8 29] ⟨by decide,by decide,?_⟩
 refine dLoop0.intro (fun f L p=>∃(i:Nat) (bs:List UInt8),f 6=vi i/\f 5 = .c (.s 29 bs.length)/\i<=s.size/\bs=c::eb c (l.take i)/\L=[(29,.arr 5 bs.length (aO bs) none)]/\p=none) (fun f _ _=>(s.size-aU (f 6)).toNat) [(29,.arr 5 1 (aO [c]) none)] none ⟨ac rfl (ak _),al _,?_⟩ ?_
 ·simp only[tt,seval]
  exact⟨0,[c],rfl,rfl,by omega,rfl,rfl⟩
 ·rintro g L p ⟨i,bs,h6,h5,hi,hbs,rfl,rfl⟩
  simp only[tt,seval] at h6 h5
  have hbl:bs.length<=1+2*i:=by
   have:=jm c (l.take i)
   rw[hbs,List.length_cons]
   rw[List.length_take] at this;omega
  simp only[tt,seval,h6,h5,Int.ofNat_lt]
  refine fun _=>aa (fun hlt=>?_) (fun hge=>?_)
  ·have hil:i<l.length:=by omega
   rw[bV hl hil]
   simp only[tt,seval,h6,h5]
   refine aa (fun heq=>?_) (fun hne=>?_)
   ·have hc:l[i]=c:=UInt8.toNat_inj.1 (by omega)
    refine⟨by kernel_rfl,⟨by simp only[maxLen];omega,by omega⟩,?_⟩
    rw[bV hl hil,dA]
    simp only[tt,seval,h6]
    refine⟨by kernel_rfl,⟨by simp only[maxLen];omega,by omega⟩,?_⟩
    rw[dA,ax (n:=(i:Int)+1) (by omega) (by omega)]
    refine⟨[(29,.arr 5 (bs++[c]++[l[i]]).length (aO (bs++[c]++[l[i]])) none)],none,ac (by simp [Go.Dv.look,Nat.add_assoc]) (ak _),al _,⟨i+1,bs++[c]++[l[i]],rfl,by simp,by omega,?_,rfl,rfl⟩,by simp only[aU];omega⟩
    rw[oE hil,if_pos hc,hbs,hc];simp
   ·have hc:¬l[i]=c:=fun e=>hne (by rw[e])
    rw[bV hl hil]
    simp only[tt,seval,h6]
    refine⟨by kernel_rfl,⟨by simp only[maxLen];omega,by omega⟩,?_⟩
    rw[dA,ax (n:=(i:Int)+1) (by omega) (by omega)]
    refine⟨[(29,.arr 5 (bs++[l[i]]).length (aO (bs++[l[i]])) none)],none,ac (by simp [Go.Dv.look]) (ak _),al _,⟨i+1,bs++[l[i]],rfl,by simp,by omega,?_,rfl,rfl⟩,by simp only[aU];omega⟩
    rw[oE hil,if_neg hc,hbs];simp
  ·have:i=s.size:=by omega
   subst this
   refine⟨by kernel_rfl,⟨by simp only[maxLen];omega,by omega⟩,?_⟩
   rw[dA]
   refine⟨by kernel_rfl,by simp only[maxLen];omega,bs++[c],by simp,rfl,?_⟩
   simp only[tt,seval]
   refine⟨_,_,iQ ?_,ai rfl⟩
   rw[hbs,<-hll,List.take_length,hl];rfl
end Go.Proofs.YteffjmaadkkmeaaGreatDoor
set_option maxRecDepth 8000
namespace Go.Proofs.YteffjmaadkkmeaaGreatDoor
open Go Go.Dv
open Go.Vc (D cY d3 cN bk)
open Go.RowKit (Below)
open Go.Vc (okV)
theorem k8 (c:UInt8):∀l:List UInt8,c ∉ l->Lib.index l [c] = -1
 | [],_=>rfl
 |b::l,h=>by
  simp only[List.mem_cons,not_or] at h
  have ih:=k8 c l h.2
  have hb:([c]:List UInt8).isPrefixOf (b::l)=false:=by simp [List.isPrefixOf,h.1]
  simp [Lib.index,hb,ih]
theorem rg (c:UInt8):∀a r:List UInt8,c ∉ a->Lib.index (a++c::r) [c]=a.length
 | [],r,_=>by simp [Lib.index,List.isPrefixOf]
 |b::a,r,h=>by
  simp only[List.mem_cons,not_or] at h
  have ih:=rg c a r h.2
  have hb:([c]:List UInt8).isPrefixOf (b::(a++c::r))=false:=by simp [List.isPrefixOf,h.1]
  have hne:¬((a.length:Int) = -1):=by omega
  simp [Lib.index,hb,ih,hne]
theorem kb {c:UInt8}:∀ {l:List UInt8},c ∉ l->eb c l=l
 | [],_=>rfl
 |b::l,h=>by
  simp only[List.mem_cons,not_or] at h
  have ih:=kb h.2
  unfold eb at *
  rw[List.flatMap_cons,ih,if_neg (fun e=>h.1 e.symm)];rfl
theorem su (c:UInt8):∀(n:Nat) (l:List UInt8),l.length<=n->Lib.replaceK [c] [c,c] (Lib.count l [c]) l=eb c l:=by
 intro n
 induction n with
 |zero=>
  intro l h
  have:l=[]:=List.eq_nil_of_length_eq_zero (by omega)
  subst this
  rw[Lib.count_miss (k8 c [] (by simp))];rfl
 |succ n ih=>
  intro l h
  by_cases hc:c∈l
  ·obtain⟨a,r,rfl,ha⟩:=List.eq_append_cons_of_mem hc
   have hi:=rg c a r ha
   have hdrop:(a++c::r).drop (a.length+[c].length)=r:=by
    rw[show a++c::r=(a++[c])++r by simp,List.drop_left' (by simp)]
   rw[Lib.count_hit (by simp) hi,Nat.add_comm,Lib.replaceK_hit _ _ _ _ _ hi,hdrop,ih r (by simp at h;omega),List.take_left' rfl]
   unfold eb
   rw[List.flatMap_append,List.flatMap_cons,if_pos rfl]
   have:=kb ha
   unfold eb at this
   rw[this];simp
  ·rw[Lib.count_miss (k8 c l hc),kb hc];rfl
theorem pE (c:UInt8) (l:List UInt8):Lib.replaceAll l [c] [c,c]=eb c l:=by
 have hne:([c]==[c,c])=false:=by simp
 unfold Lib.replaceAll Lib.replace Lib.replaceNum
 rw[hne,if_neg (by simp),if_pos (by simp)]
 exact su c l.length l (Nat.le_refl _)
theorem data_append (a b:ByteArray):(a++b).data.toList=a.data.toList++b.data.toList:=by rw[ByteArray.data_append,Array.toList_append]
def one (c:UInt8):ByteArray:=⟨#[c]⟩
theorem tP (c:UInt8):(one c++one c).data.toList=[c,c]:=by rw[data_append];rfl
theorem sA (s:ByteArray) (c:UInt8) (hs:s.size<=1048576):Cl Tryz.prog 332 [vs s,vs (one c),vs (one c++one c)] [] fun r _=>r=vs ⟨(eb c s.data.toList).toArray⟩:=
 Cl.ofVals (by kernel_rfl) [.string s,.string (one c),.string (one c++one c)] fun w hg=>by
  obtain⟨m,hm⟩:=sq hg
  have h2:(one c++one c).size=2:=by rw[<-aG,tP];rfl
  have hcnt:Lib.countB s (one c)<=s.size:=Lib.countB_le (one c) (Nat.le_refl 1) s.size s (Nat.le_refl _)
  refine (Any.strings_ReplaceAll Tryz.lays155 Tryz.Builder_Extra_155 s (one c) (one c++one c) m w (by omega) hm (Nat.le_refl 1) (by rw[h2];omega)).mono ?_
  rintro e w' ⟨rfl,hb⟩
  rw[tP,show (one c).data.toList=[c] from rfl,pE]
  refine⟨_,rfl,?_,rfl,hb⟩
  show (List.toArray _).size<=maxLen
  have:=jm c s.data.toList
  rw[aG] at this
  simp only[List.size_toArray,maxLen];omega
theorem m8 {a b:ByteArray} (h:a.data.toList=b.data.toList):a=b:=by
 obtain⟨⟨x⟩⟩:=a;obtain⟨⟨y⟩⟩:=b
 simp only at h;rw[h]
theorem zw (a b:ByteArray):(a++b).size=a.size+b.size:=by rw[<-aG,data_append,aA,aG,aG]
theorem tQ (s:ByteArray) (c:UInt8) (hs:s.size<=1048576):Cl Tryz.prog 320 [vs s,vs (one c)] [] fun r _=>r=vs (jl c s):=by
 have h1:(one c).size=1:=rfl
 refine ae ab false Tryz.func320 rfl (by kernel_rfl) ?_
 simp only[Tryz.f320,tt,seval]
 rw[iv (by omega)]
 refine cZ (sA s c hs) ?_ ?_<;>simp only[tt,seval]
 have hq:(⟨(eb c s.data.toList).toArray⟩:ByteArray).size<=2*s.size:=by
  have:=jm c s.data.toList
  rw[aG] at this
  show (List.toArray _).size<=_
  simpa using this
 rw[iv (by omega)]
 simp only[tt,seval]
 rw[iv (by rw[zw];omega)]
 simp only[tt,seval]
 exact⟨_,_,iQ (m8 (by rw[data_append,data_append];simp [one,jl])),ai rfl⟩
def lK (s:ByteArray):ByteArray:=if 1<=s.size/\s.size<=20 then (if eR s=true then s else jl 34 s) else ⟨#[]⟩
theorem tR (s:ByteArray) (hs:s.size<=1048576):Cl Tryz.prog 283 [vs s] [] fun r _=>r=vs (jl 39 s):=by
 refine ae ab false Tryz.func283 rfl (by kernel_rfl) ?_
 simp only[Tryz.f283,tt,seval]
 refine cZ (rf s 39 hs) ?_ ?_<;>simp only[tt,seval]
 exact⟨_,_,rfl,ai rfl⟩
theorem mH (s:ByteArray) (hs:s.size<=1048576):Cl Tryz.prog 291 [vs s] [] fun r _=>r=vs (jl 39 s):=by
 refine ae ab false Tryz.func291 rfl (by kernel_rfl) ?_
 simp only[Tryz.f291,tt,seval]
 refine cZ (tQ s 39 hs) ?_ ?_<;>simp only[tt,seval,one]
 exact⟨_,_,rfl,ai rfl⟩
theorem vM (s:ByteArray) (hs:s.size<=1048576):Cl Tryz.prog 282 [vs s] [] fun r _=>r=vs (lK s):=by
 refine ae ab false Tryz.func282 rfl (by kernel_rfl) ?_
 simp only[Tryz.f282,tt,seval]
 refine cZ (gb s) ?_ ?_<;>simp only[tt,seval]
 refine aa (fun h=>?_) (fun h=>?_)
 ·exact⟨_,_,iQ (by rw[lK,if_neg (by simpa only[Bool.not_eq_true',decide_eq_false_iff_not] using h)]),ai rfl⟩
 ·skip
  refine cZ (jZ s hs) ?_ ?_<;>simp only[tt,seval]
  have h':1<=s.size/\s.size<=20:=by simpa only[Bool.not_eq_false',decide_eq_true_eq] using h
  refine aa (fun hp=>?_) (fun hp=>?_)
  ·exact⟨_,_,iQ (by rw[lK,if_pos h',if_pos hp]),ai rfl⟩
  ·skip
   refine cZ (rf s 34 hs) ?_ ?_<;>simp only[tt,seval]
   exact⟨_,_,iQ (by rw[lK,if_pos h',if_neg (by rw[hp];simp)]),ai rfl⟩
theorem tS (s:ByteArray) (hs:s.size<=1048576):Cl Tryz.prog 290 [vs s] [] fun r _=>r=vs (lK s):=by
 refine ae ab false Tryz.func290 rfl (by kernel_rfl) ?_
 simp only[Tryz.f290,tt,seval]
 refine cZ (er s) ?_ ?_<;>simp only[tt,seval]
 refine aa (fun h=>?_) (fun h=>?_)
 ·exact⟨_,_,iQ (by rw[lK,if_neg (by simpa only[Bool.not_eq_true',decide_eq_false_iff_not] using h)]),ai rfl⟩
 ·skip
  refine cZ (jk s hs) ?_ ?_<;>simp only[tt,seval]
  have h':1<=s.size/\s.size<=20:=by simpa only[Bool.not_eq_false',decide_eq_true_eq] using h
  refine aa (fun hp=>?_) (fun hp=>?_)
  ·exact⟨_,_,iQ (by rw[lK,if_pos h',if_pos hp]),ai rfl⟩
  ·skip
   refine cZ (tQ s 34 hs) ?_ ?_<;>simp only[tt,seval,one]
   exact⟨_,_,iQ (by rw[lK,if_pos h',if_neg (by rw[hp];simp)]),ai rfl⟩
end Go.Proofs.YteffjmaadkkmeaaGreatDoor
set_option maxRecDepth 8000
namespace Go.Proofs.YteffjmaadkkmeaaGreatDoor
open Go Go.Dv
open Go.Vc (D cY d3 cN bk)
def dN (v:Val):Bool:=
 if v.kind=0 then decide (v.num=0)&&decide (v.text=⟨#[]⟩) else if v.kind=1 then decide (v.text=⟨#[]⟩)
 else if v.kind=2 then decide (v.num=0)&&decide ((v.text.size:Int)<=200) else if v.kind=3 then decide (0<=v.num/\v.num<=1)&&decide (v.text=⟨#[]⟩) else false
theorem yb (v:Val):Cl Tryz.prog 272 [.ag (av v.row)] [] fun r _=>r=vb (dN v):=by
 rw[Val.row]
 refine ae ab false Tryz.func272 rfl (by kernel_rfl) ?_
 simp only[Tryz.f272,tt,seval]
 refine aa (fun h0=>?_) (fun h0=>?_)
 ·refine aa (fun h=>?_) (fun h=>?_)<;>simp only[tt,seval]
  ·exact⟨_,_,aE (by rw[dN,if_pos h0,h];rfl),ai rfl⟩
  ·exact⟨_,_,aE (by rw[dN,if_pos h0,h];rfl),ai rfl⟩
 ·try simp only[tt,seval]
  refine aa (fun h1=>?_) (fun h1=>?_)
  ·exact⟨_,_,aE (by rw[dN,if_neg h0,if_pos h1]),ai rfl⟩
  ·try simp only[tt,seval]
   refine aa (fun h2=>?_) (fun h2=>?_)
   ·refine aa (fun h=>?_) (fun h=>?_)<;>simp only[tt,seval]
    ·exact fun _=>⟨_,_,aE (by rw[dN,if_neg h0,if_neg h1,if_pos h2,h];rfl),ai rfl⟩
    ·exact⟨_,_,aE (by rw[dN,if_neg h0,if_neg h1,if_pos h2,h];rfl),ai rfl⟩
   ·try simp only[tt,seval]
    refine aa (fun h3=>?_) (fun h3=>?_)
    ·try simp only[tt,seval]
     refine cZ (cF v.num 0 1) ?_ ?_<;>simp only[tt,seval]
     cases hn:decide ((0:Int)<=v.num/\v.num<=1)<;>simp only[tt,seval]
     ·exact⟨_,_,aE (by rw[dN,if_neg h0,if_neg h1,if_neg h2,if_pos h3,hn];rfl),ai rfl⟩
     ·exact⟨_,_,aE (by rw[dN,if_neg h0,if_neg h1,if_neg h2,if_pos h3,hn];rfl),ai rfl⟩
    ·exact⟨_,_,aE (by rw[dN,if_neg h0,if_neg h1,if_neg h2,if_neg h3]),ai rfl⟩
theorem pF (v:Val):Cl Tryz.prog 279 [.ag (av v.row)] [] fun r _=>r=vb (dN v):=by
 rw[Val.row]
 refine ae ab false Tryz.func279 rfl (by kernel_rfl) ?_
 simp only[Tryz.f279,tt,seval]
 refine aa (fun h0=>?_) (fun h0=>?_)
 ·refine aa (fun h=>?_) (fun h=>?_)<;>simp only[tt,seval]
  ·exact⟨_,_,aE (by rw[dN,if_pos h0,h];rfl),ai rfl⟩
  ·exact⟨_,_,aE (by rw[dN,if_pos h0,h];rfl),ai rfl⟩
 ·try simp only[tt,seval]
  refine aa (fun h1=>?_) (fun h1=>?_)
  ·exact⟨_,_,aE (by rw[dN,if_neg h0,if_pos h1]),ai rfl⟩
  ·try simp only[tt,seval]
   refine aa (fun h2=>?_) (fun h2=>?_)
   ·refine aa (fun h=>?_) (fun h=>?_)<;>simp only[tt,seval]
    ·exact fun _=>⟨_,_,aE (by rw[dN,if_neg h0,if_neg h1,if_pos h2,h];rfl),ai rfl⟩
    ·exact⟨_,_,aE (by rw[dN,if_neg h0,if_neg h1,if_pos h2,h];rfl),ai rfl⟩
   ·try simp only[tt,seval]
    refine aa (fun h3=>?_) (fun h3=>?_)
    ·have fin:∀b:Bool,decide ((0:Int)<=v.num/\v.num<=1)=b->dN v=(b&&decide (v.text=⟨#[]⟩)):=fun b hb=>by rw[dN,if_neg h0,if_neg h1,if_neg h2,if_pos h3,hb]
     by_cases hz:v.num=0
     ·simp only[tt,seval,ap hz]
      exact⟨_,_,aE (by rw[fin true (ap (by omega))];rfl),ai rfl⟩
     ·simp only[tt,seval,ao hz]
      by_cases ho:v.num=1
      ·simp only[tt,seval,ap ho]
       exact⟨_,_,aE (by rw[fin true (ap (by omega))];rfl),ai rfl⟩
      ·simp only[tt,seval,ao ho]
       exact⟨_,_,aE (by rw[fin false (ao (by omega))];rfl),ai rfl⟩
    ·exact⟨_,_,aE (by rw[dN,if_neg h0,if_neg h1,if_neg h2,if_neg h3]),ai rfl⟩
def pG (v:Val):ByteArray:=
 if dN v=false then ⟨#[63]⟩ else if v.kind=1 then dV v.num else if v.kind=2 then jl 39 v.text else if v.kind=3 then (if v.num=1 then ⟨#[84,82,85,69]⟩ else ⟨#[70,65,76,83,69]⟩) else ⟨#[78,85,76,76]⟩
theorem l5 (n:Int) (h0 : -9223372036854775808<=n) (h1:n<=9223372036854775807):Cl Tryz.prog 227 [vi n] [] fun r _=>r=vs (dV n):=by
 refine ae ab false Tryz.func227 rfl (by kernel_rfl) ?_
 simp only[Tryz.f227,tt,seval]
 refine cZ (Dy n h0 h1) ?_ ?_<;>simp only[tt,seval]
 exact⟨_,_,rfl,ai rfl⟩
def sg (b:Bool) (k:Nat):Int:=if b=true then -(k:Int) else k
theorem Dz (b:Bool) (k:Nat):(sg b k).tmod 10=sg b (k % 10):=by
 unfold sg;split
 ·rw[Int.neg_tmod];rfl
 ·rfl
theorem zx (b:Bool) (k:Nat):(sg b k).tdiv 10=sg b (k / 10):=by
 unfold sg;split
 ·rw[Int.neg_tdiv];rfl
 ·rfl
theorem wU (b:Bool) (k:Nat):sg b k=0↔k=0:=by unfold sg;split<;>omega
def nN (k:Nat):UInt8:=UInt8.ofNat (48+k % 10)
theorem zy (k:Nat):((nN k).toNat:Int)=48+(k % 10:Nat):=by
 unfold nN
 rw[UInt8.toNat_ofNat']
 omega
theorem kc {k:Nat} (h:k / 10≠0):Lib.decDigits k=Lib.decDigits (k / 10)++[nN k]:=by
 rw[Lib.decDigits,dif_neg (by omega)];rfl
theorem jN {k:Nat} (h:k / 10=0):Lib.decDigits k=[nN k]:=by
 have:k % 10=k:=by omega
 rw[Lib.decDigits,dif_pos (by omega),nN,this]
theorem pH (n:Int) (h0 : -9223372036854775808<=n) (h1:n<=9223372036854775807):Cl Tryz.prog 163 [vi n] [] fun r _=>r=vs (dV n):=by
 obtain⟨b,hb⟩:∃b,b=decide (n<0):=⟨_,rfl⟩
 refine ae ab false Tryz.func163 rfl (by kernel_rfl) ?_
 simp only[Tryz.f163,tt,seval]
 refine aa (fun hz=>?_) (fun hz=>?_)
 ·subst hz
  exact⟨_,_,iQ (show (⟨#[48]⟩:ByteArray)=dV 0 by unfold dV Lib.itoa;rw[if_neg (by omega),Lib.decDigits,dif_pos (by decide)];rfl),ai rfl⟩
 ·rw[<-hb]
  refine dLoop.intro (fun f L p=>∃(k:Nat) (o:List UInt8),f 0=vi (sg b k)/\f 4=vs ⟨o.toArray⟩/\k<=n.natAbs/\Lib.decDigits n.natAbs=(if k=0 then o else Lib.decDigits k++o)/\L=[]/\p=none) (fun f _ _=>(aU (f 0)).natAbs) [] none ⟨ak _,al _,?_⟩ ?_
  ·simp only[tt,seval]
   refine⟨n.natAbs,[],gB ?_,rfl,Nat.le_refl _,?_⟩
   ·rw[sg,hb];simp only[decide_eq_true_eq];split<;>omega
   ·rw[if_neg (by omega),List.append_nil]
  ·rintro g L p ⟨k,o,hk,ho,hkn,hd,rfl,rfl⟩
   simp only[tt,seval] at hk ho
   have hol:o.length<=20:=by
    have h2:=pB h0 h1
    have h3:(Lib.decDigits n.natAbs).length<=20:=eL n.natAbs 19 (by omega)
    rw[hd] at h3
    split at h3
    ·exact h3
    ·rw[aA] at h3;omega
   simp only[tt,seval,hk,ho,Dz]
   refine aa (fun hne=>?_) (fun heq=>?_)
   ·have hk0:k≠0:=by
     simp only[Bool.not_eq_true',decide_eq_false_iff_not,wU] at hne;exact hne
    have hdv:=zy k
    refine aa (fun hneg=>?_) (fun hpos=>?_)
    ·have hs:sg b (k % 10) = -((k % 10:Nat):Int):=by
      unfold sg at hneg ⊢
      split at hneg
      ·rename_i h;rw[if_pos h]
      ·omega
     have hval:IntKind.u8.wrap (IntKind.i64.wrap (48+IntKind.i64.wrap (0-sg b (k % 10))))=((nN k).toNat:Int):=by
      rw[hs,ax (n:=0 - -((k % 10:Nat):Int)) (by omega) (by omega),ax (by omega) (by omega),IntWalk.u8_in _ (by omega),hdv];omega
     refine⟨by kernel_rfl,by decide,[nN k],rfl,by rw[hval];rfl,?_⟩
     simp only[tt,seval,ho]
     have hsz:(⟨[nN k].toArray⟩:ByteArray).size+(⟨o.toArray⟩:ByteArray).size=1+o.length:=by show (List.toArray _).size+(List.toArray _).size=_;simp
     rw[iv (by rw[hsz];omega)]
     simp only[tt,seval,hk,zx]
     rw[ax (n:=sg b (k / 10)) (by rw[sg];split<;>omega) (by rw[sg];split<;>omega)]
     refine⟨[],none,ak _,al _,⟨k / 10,nN k::o,rfl,iQ (m8 (by rw[data_append];simp)),by omega,?_,rfl,rfl⟩,?_⟩
     ·rw[hd,if_neg hk0]
      split
      ·rename_i h;rw[jN h];rfl
      ·rename_i h;rw[kc h];simp
     ·simp only[aU,sg];split<;>omega
    ·have hs:sg b (k % 10)=((k % 10:Nat):Int):=by
      unfold sg at hpos ⊢
      split at hpos
      ·rename_i h;rw[if_pos h];omega
      ·rename_i h;rw[if_neg h]
     have hval:IntKind.u8.wrap (IntKind.i64.wrap (48+sg b (k % 10)))=((nN k).toNat:Int):=by
      rw[hs,ax (by omega) (by omega),IntWalk.u8_in _ (by omega),hdv]
     refine⟨by kernel_rfl,by decide,[nN k],rfl,by rw[hval];rfl,?_⟩
     simp only[tt,seval,ho]
     have hsz:(⟨[nN k].toArray⟩:ByteArray).size+(⟨o.toArray⟩:ByteArray).size=1+o.length:=by show (List.toArray _).size+(List.toArray _).size=_;simp
     rw[iv (by rw[hsz];omega)]
     simp only[tt,seval,hk,zx]
     rw[ax (n:=sg b (k / 10)) (by rw[sg];split<;>omega) (by rw[sg];split<;>omega)]
     refine⟨[],none,ak _,al _,⟨k / 10,nN k::o,rfl,iQ (m8 (by rw[data_append];simp)),by omega,?_,rfl,rfl⟩,?_⟩
     ·rw[hd,if_neg hk0]
      split
      ·rename_i h;rw[jN h];rfl
      ·rename_i h;rw[kc h];simp
     ·simp only[aU,sg];split<;>omega
   ·have hk0:k=0:=by
     simp only[Bool.not_eq_false',decide_eq_true_eq,wU] at heq;exact heq
    subst hk0
    rw[if_pos rfl] at hd
    refine aa (fun hb1=>?_) (fun hb0=>?_)
    ·have hn:n<0:=by rw[hb] at hb1;exact of_decide_eq_true hb1
     have hsz:(⟨#[45]⟩:ByteArray).size+(⟨o.toArray⟩:ByteArray).size=1+o.length:=by show 1+(List.toArray _).size=_;simp
     rw[iv (by rw[hsz];omega)]
     simp only[tt,seval]
     exact⟨_,_,iQ (m8 (by rw[data_append];simp [dV,Lib.itoa,hn,hd])),ai rfl⟩
    ·have hn:¬n<0:=by rw[hb] at hb0;exact of_decide_eq_false hb0
     have e:n.toNat=n.natAbs:=by omega
     exact⟨_,_,iQ (m8 (by simp [dV,Lib.itoa,hn,e,hd])),ai rfl⟩
theorem sB (v:Val) (h0 : -9223372036854775808<=v.num) (h1:v.num<=9223372036854775807) (hs:v.text.size<=1048576):Cl Tryz.prog 322 [.ag (av v.row)] [] fun r _=>r=vs (pG v):=by
 rw[Val.row]
 refine ae ab false Tryz.func322 rfl (by kernel_rfl) ?_
 simp only[Tryz.f322,tt,seval]
 refine cZ (pF v) ?_ ?_<;>simp only[tt,seval,Val.row]
 refine aa (fun hk=>?_) (fun hk=>?_)
 ·exact⟨_,_,iQ (by rw[pG,if_pos (by simpa only[Bool.not_eq_true'] using hk)]),ai rfl⟩
 ·have hk':¬dN v=false:=by simpa only[Bool.not_eq_false',Bool.not_eq_false] using hk
  refine aa (fun k1=>?_) (fun k1=>?_)
  ·skip
   refine cZ (l5 v.num h0 h1) ?_ ?_<;>simp only[tt,seval]
   exact⟨_,_,iQ (by rw[pG,if_neg hk',if_pos k1]),ai rfl⟩
  ·try simp only[tt,seval]
   refine aa (fun k2=>?_) (fun k2=>?_)
   ·skip
    refine cZ (mH v.text hs) ?_ ?_<;>simp only[tt,seval]
    exact⟨_,_,iQ (by rw[pG,if_neg hk',if_neg k1,if_pos k2]),ai rfl⟩
   ·try simp only[tt,seval]
    refine aa (fun k3=>?_) (fun k3=>?_)
    ·try simp only[tt,seval]
     refine aa (fun k4=>?_) (fun k4=>?_)
     ·exact⟨_,_,iQ (by rw[pG,if_neg hk',if_neg k1,if_neg k2,if_pos k3,if_pos k4]),ai rfl⟩
     ·exact⟨_,_,iQ (by rw[pG,if_neg hk',if_neg k1,if_neg k2,if_pos k3,if_neg k4]),ai rfl⟩
    ·exact⟨_,_,iQ (by rw[pG,if_neg hk',if_neg k1,if_neg k2,if_neg k3]),ai rfl⟩
theorem gL (a b:List UInt8):aO a++aO b=aO (a++b):=by simp [aO]
end Go.Proofs.YteffjmaadkkmeaaGreatDoor
set_option maxRecDepth 8000
namespace Go.Proofs.YteffjmaadkkmeaaGreatDoor
open Go Go.Dv
open Go.Vc (D cY d3 cN bk)
open Go.RowKit (Below)
open Go.Vc (CellF RowF ValsF okV vis)
theorem C5 {w:World} {ok0:Nat->Prop} {L:Ob} {β:Nat->Option Nat} {b:Nat} (h:qJ ok0 L β b):okR w ok0 L β L β b:=⟨h.1,fun _=>.inl h.2⟩
theorem tT (w:World) (b:Nat) (p v:Value) (lh:Nat×Nat) (hb:w.heap[b]?=some (.cells #[p,v] 223 lh)) (hlh:Lh 2 lh) (hp:p = .pointer none∨p = .pointer (some ⟨b,0,none⟩)) :
 Calls Tryz.prog 289 #[.pointer (some ⟨b,0,none⟩)] w fun e w'=>e = .returned (.tuple #[])/\∃p',(p' = .pointer none∨p' = .pointer (some ⟨b,0,none⟩))/\w'=w.setRow b #[p',v]:=by
 have hc:w.cell? ⟨b,0,none⟩=some p:=by simp [World.cell?,hb]
 have hself:w.setRow b #[p,v]=w:=setRow_self w b _ _ _ hb
 rcases hp with rfl|rfl
 ·have hsh:w.shape? b=some (223,2):=by simp [World.shape?,hb]
  have hfz:w.frozen? ⟨b,0,none⟩=false:=by
   have:=hlh 0 (by decide)
   obtain⟨lo,hi⟩:=lh
   simp only[World.frozen?,hb,Bool.and_eq_false_iff,decide_eq_false_iff_not]
   simp only at this;omega
  refine (Any.Builder_copyCheck_fresh { Tryz.lays155 with } Tryz.Builder_Extra_155.toX72 b w hc hsh hfz).mono ?_
  rintro e w' ⟨rfl,rfl⟩
  exact⟨rfl,_,.inr rfl,by rw[setCell_eq_setRow w b 0 _ _ _ _ hb];rfl⟩
 ·refine (Any.Builder_copyCheck_used { Tryz.lays155 with } Tryz.Builder_Extra_155.toX72 b w hc).mono ?_
  rintro e w' ⟨rfl,rfl⟩
  exact⟨rfl,_,.inr rfl,hself.symm⟩
theorem tU (x:C) (hx:eG x=true) (hf:tL x=[]) (hx1:x ≠ .self):Cl Tryz.prog 289 [.c (.p 9000 0)] [[.self,x]] fun r os=>r = .tu []/\os=[[.self,x]]:=by
 refine⟨by kernel_rfl,fun w β ok0 vs ha ho hg=>?_⟩
 have hL:lent [.c (.p 9000 0)] [[.self,x]]=gG 0 [[.self,x]]:=rfl
 have hB:back (.tu []) [[.self,x]]=gG 0 [[.self,x]]:=rfl
 generalize hLL:gG 0 [[C.self,x]]=L at hL hB
 rw[hL] at ha ho hg ⊢
 have hlk:Go.Dv.look L 9000=some (.str (expC 9200 [.self,x])):=by rw[<-hLL];rfl
 cases vs with
 |nil=>exact ha.elim
 |cons v0 r=>
  cases r with
  |cons _ _=>exact ha.2.elim
  |nil=>
   obtain⟨b,hb,rfl⟩:=ha.1
   obtain⟨b',cells,ty,lh,hb',hc,hlh,hsf,hrel⟩:=ho.rel 9000 _ hlk
   have:b'=b:=by rw[hb] at hb';injection hb' with e;exact e.symm
   subst this
   obtain⟨rfl,hp⟩:=hsf 0 rfl
   obtain⟨p,v,hcl⟩:∃p v,cells = #[p,v]:=by
    have:=hrel.length
    have h2:cells.toList.length=2:=by rw[<-this];rfl
    match hq:cells.toList,h2 with
    | [p,v],_=>exact⟨p,v,by rw[<-Array.toArray_toList (xs:=cells),hq]⟩
   subst hcl
   have how:ownB L β b':=⟨9000,_,hlk,hb⟩
   refine (tT w b' p v lh hc (by simpa using hlh) (by simpa using hp)).mono ?_
   rintro e w' ⟨rfl,p',hp',rfl⟩
   have hoth:∀y,y≠b'->(w.setRow b' #[p',v]).heap[y]?=w.heap[y]?:=fun y hy=>setRow_other w b' y _ hy
   have hnew:=setRow_heap w b' #[p,v] #[p',v] 223 _ hc
   have hcells:∀(y:Nat) cs2 ty2 lh2,w.heap[y]?=some (.cells cs2 ty2 lh2)->∃cs3 lh3,(w.setRow b' #[p',v]).heap[y]?=some (.cells cs3 ty2 lh3)/\cs3.size=cs2.size:=fun y cs2 ty2 lh2 hy=>by
    by_cases e:y=b'
    ·subst e
     rw[hc] at hy;injection hy with hy;injection hy with e1 e2 e3
     subst e1 e2 e3
     exact⟨_,_,hnew,rfl⟩
    ·exact⟨cs2,lh2,(hoth y e).trans hy,rfl⟩
   have hst:Stab w (w.setRow b' #[p',v]) (qJ ok0 L β) (okR w ok0 L β L β):=⟨fun y _ hy=>⟨hoth y fun e=>hy.1 (e▸how),C5 hy⟩,hcells⟩
   refine⟨_,.tu [],[[.self,x]],β,rfl,⟨rfl,rfl⟩,?_⟩
   refine⟨⟨[],rfl,trivial⟩,?_,fun _ _=>rfl,rfl,?_,by simp [Wd],⟨rfl,rfl,rfl⟩,?_,?_⟩
   ·rw[hB]
    refine⟨fun i o hl=>?_,ho.inj⟩
    by_cases hi:i=9000
    ·subst hi
     rw[hlk] at hl;injection hl with hl;subst hl
     have hr:=RelL.st hst hrel
     refine⟨b',#[p',v],223,lh,hb,hnew,by simpa using hlh,fun k hk=>?_,?_⟩
     ·refine⟨rfl,?_⟩
      match k,hk with
      |0,_=>simpa using hp'
      |1,hk=>
       have:=nY hk
       simp at this
       exact absurd this hx1
     ·refine⟨?_,hr.2⟩
      rcases hp' with h|h
      ·exact .inl h
      ·exact .inr ⟨b',h⟩
    ·refine (ho.rel i o hl).st hst fun y hy=>hoth y fun e=>?_
     subst e
     exact hi (ho.inj i 9000 o _ y hl hlk hy hb)
   ·rw[hB]
    exact⟨by simp,fun y _ hn=>hoth y fun e=>hn (e▸how),fun y _ h=>h,hcells⟩
   ·have:fps (.tu []) [[.self,x]]=[]:=by show []++(([]++(tL x++[]))++[])=[];rw[hf];rfl
    rw[this];exact⟨List.nodup_nil,fun y hy=>by cases hy⟩
   ·have h1:eh [C.self,x]=true:=by show (true&&(eG x&&true))=true;rw[hx];rfl
    show (true&&true&&((eh [C.self,x]&&true)&&true)&&true)=true
    rw[h1];rfl
theorem fW (bs:List UInt8) (s:ByteArray) (h:bs.length+s.size<=100000000):Cl Tryz.prog 252 [.c (.p 9000 0),vs s] [[.self,.ow 5 bs.length (aO bs) none]] fun r os=>r = .tu [([.v (.int .i64 s.size)],true),([.v .nilIface],true)]/\os=[[.self,.ow 5 (bs.length+s.size) (aO (bs++s.data.toList)) none]]:=by
 refine ae ab false Tryz.func252 rfl (by kernel_rfl) ?_
 simp only[Tryz.f252,tt,seval]
 refine cS (tU (.ow 5 bs.length (aO bs) none) rfl rfl (fun e=>by cases e)) ?_ ?_<;>simp only[tt,seval]
 refine⟨by kernel_rfl,by rw[fH,aG,Nat.mul_one],⟨by simp only[maxLen];omega,by omega⟩,fun _=>?_⟩
 rw[gL]
 refine⟨_,_,⟨rfl,rfl⟩,am ?_⟩
 simp only[tt,seval]
end Go.Proofs.YteffjmaadkkmeaaGreatDoor
namespace Go.Proofs.YteffjmaadkkmeaaGreatDoor
open Go Go.Shelf Go.RowKit Go.Proofs
section
variable {P:Program} {ρ:Ren}
structure But (g:Option Nat) (w w':World):Prop where
 size:w.heap.size<=w'.heap.size
 keep:∀x,x<w.heap.size->g≠some x->w'.heap[x]?=w.heap[x]?
 cells:∀x,g=some x->∀cs t lh,w.heap[x]?=some (.cells cs t lh)->∃lh',w'.heap[x]?=some (.cells cs t lh')
 os:w'.os=w.os
 tape:w'.tape=w.tape
 output:w'.output=w.output
theorem But.drew (g:Option Nat) (w:World):But g w w.drew:=⟨Nat.le_refl _,fun _ _ _=>rfl,fun _ _ _ _ lh h=>⟨lh,h⟩,rfl,rfl,rfl⟩
theorem But.alloc {g:Option Nat} {w w':World} (h:But g w w') (o:Obj):But g w (w'.alloc o) where
 size:=by have:=h.size;simp;omega
 keep:=fun x hx hg=>(Go.heap_alloc_old w' o (Nat.lt_of_lt_of_le hx h.size)).trans (h.keep x hx hg)
 cells:=fun x hg cs t lh hc=>by
  obtain⟨lh',h1⟩:=h.cells x hg cs t lh hc
  exact⟨lh',(Go.heap_alloc_old w' o (Array.getElem?_eq_some_iff.1 h1).1).trans h1⟩
 os:=h.os
 tape:=h.tape
 output:=h.output
theorem But.freeze {w w':World} (g n:Nat) (h:But (some g) w w'):But (some g) w (w'.freeze ⟨g,0,none⟩ n):=by
 unfold World.freeze
 split
 ·exact h
 ·refine⟨by simpa using h.size,fun x hx hg=>?_,fun x hg cs t lh hc=>?_,h.os,h.tape,h.output⟩
  ·have:¬g=x:=fun e=>hg (by rw[e])
   simp only[Array.getElem?_modify,if_neg this];exact h.keep x hx hg
  ·obtain⟨lh',h1⟩:=h.cells x hg cs t lh hc
   injection hg with hg;subst hg
   simp only[Array.getElem?_modify,if_true,h1,Option.map_some]
   exact⟨_,rfl⟩
set_option maxHeartbeats 1000000 in
set_option maxRecDepth 100000 in
theorem tV (L:Lays.n169 P ρ) (X:Builder.Extra P ρ) (b g cap:Nat) (p:Value) (cur:Array Value) (fz:Nat×Nat) (l:List UInt8) (w:World) (h0:l≠[]) (hbk:w.heap[b]?=some (.cells #[p,.slice (some ⟨g,0,none⟩) l.length cap] (ρ.t 72) fz))
 (hg:∃fg,w.heap[g]?=some (.cells cur (ρ.t 5) fg)) (hnc:l.length<=cap) (hcm:cap<=maxLen) (hcs:cap<=cur.size) (htake:∀(j:Nat) (x:UInt8),l[j]?=some x->cur.toList[j]?=some (Value.int .u8 (x.toNat:Int))) :
 Calls P (ρ.f 169) #[.pointer (some ⟨b,0,none⟩)] w fun e w'=>e = .returned (.string ⟨l.toArray⟩)/\But (some g) w w':=by
 obtain⟨fg,hg⟩:=hg
 have hl0:l.length≠0:=by simpa using h0
 have c1:w.drew.cell? ⟨b,1,none⟩=some (.slice (some ⟨g,0,none⟩) l.length cap):=by
  have:w.drew.heap[b]?=some (.cells #[p,.slice (some ⟨g,0,none⟩) l.length cap] (ρ.t 72) fz):=hbk
  rw[Lib.cell_of_heap this];rfl
 have hSD:(Builtin.unsafeSliceData_ #[(ρ.t 37)] (ρ.t 127) #[.slice (some ⟨g,0,none⟩) l.length cap]).run P w.drew = .ok (.pointer (some ⟨g,0,none⟩)) w.drew:=
  Lib.run_unsafeSliceData_row _ _ _ _ _ _ (by omega)
 have hUS:(Builtin.unsafeString_ #[(ρ.t 127),(ρ.t 3)] (ρ.t 9) #[.pointer (some ⟨g,0,none⟩),.int .i64 l.length]).run P w.drew = .ok (.string ⟨l.toArray⟩) (w.drew.freeze ⟨g,0,none⟩ l.length):=by
  refine Lib.run_unsafeString_row w.drew (ρ.t 127) (ρ.t 3) (ρ.t 9) (ρ.t 5) L.t127 X.cellsByte g cur.size (by have hg':w.drew.heap[g]?=some (.cells cur (ρ.t 5) fg):=hg;simp [World.shape?,hg']) l h0 (by omega) (by unfold maxLen at hcm;omega) ?_
  intro j x hx
  have hg':w.drew.heap[g]?=some (.cells cur (ρ.t 5) fg):=hg
  have e:(⟨g,0,none⟩:Addr).add j=⟨g,j,none⟩:=by unfold Addr.add;split<;>simp_all
  rw[e,Lib.cell_of_heap hg']
  have:=htake j x hx
  simpa using this
 have mixed:=L.mixed
 have t72:=L.t72;have a72:=L.a72;have z72:=L.z72;have v72:=L.v72;have u72:=run_underlying L.t72
 have t70:=L.t70;have a70:=L.a70;have z70:=L.z70;have v70:=L.v70;have u70:=run_underlying L.t70
 have t37:=L.t37;have a37:=L.a37;have z37:=L.z37;have v37:=L.v37;have u37:=run_underlying L.t37
 have t127:=L.t127;have a127:=L.a127;have z127:=L.z127;have v127:=L.v127;have u127:=run_underlying L.t127
 have t3:=L.t3;have a3:=L.a3;have z3:=L.z3;have v3:=L.v3;have u3:=run_underlying L.t3
 have t9:=L.t9;have a9:=L.a9;have z9:=L.z9;have v9:=L.v9;have u9:=run_underlying L.t9
 have t5:=X.t5;have a5:=X.a5;have z5:=X.z5;have v5:=X.v5;have u5:=run_underlying X.t5
 go_enter L.f169,Body.n169_ntmps ρ
 go_wp2
 go_region_o
 all_goals (go_wp2;go_ret;exact⟨rfl,(But.drew _ w).freeze g _⟩)
set_option maxHeartbeats 1000000 in
set_option maxRecDepth 100000 in
theorem tW (L:Lays.n169 P ρ) (X:Builder.Extra P ρ) (b:Nat) (p:Value) (fz:Nat×Nat) (w:World) (hbk:w.heap[b]?=some (.cells #[p,.slice none 0 0] (ρ.t 72) fz)) :
 Calls P (ρ.f 169) #[.pointer (some ⟨b,0,none⟩)] w fun e w'=>e = .returned (.string ⟨#[]⟩)/\But none w w':=by
 have hUS:=Any.unsafeString_none L X
 have c1:w.drew.cell? ⟨b,1,none⟩=some (.slice none 0 0):=by
  have:w.drew.heap[b]?=some (.cells #[p,.slice none 0 0] (ρ.t 72) fz):=hbk
  rw[Lib.cell_of_heap this];rfl
 have hSD:(Builtin.unsafeSliceData_ #[(ρ.t 37)] (ρ.t 127) #[.slice none 0 0]).run P w.drew = .ok (.pointer none) w.drew:=rfl
 have mixed:=L.mixed
 have t72:=L.t72;have a72:=L.a72;have z72:=L.z72;have v72:=L.v72;have u72:=run_underlying L.t72
 have t70:=L.t70;have a70:=L.a70;have z70:=L.z70;have v70:=L.v70;have u70:=run_underlying L.t70
 have t37:=L.t37;have a37:=L.a37;have z37:=L.z37;have v37:=L.v37;have u37:=run_underlying L.t37
 have t127:=L.t127;have a127:=L.a127;have z127:=L.z127;have v127:=L.v127;have u127:=run_underlying L.t127
 have t3:=L.t3;have a3:=L.a3;have z3:=L.z3;have v3:=L.v3;have u3:=run_underlying L.t3
 have t9:=L.t9;have a9:=L.a9;have z9:=L.z9;have v9:=L.v9;have u9:=run_underlying L.t9
 have t5:=X.t5;have a5:=X.a5;have z5:=X.z5;have v5:=X.v5;have u5:=run_underlying X.t5
 go_enter L.f169,Body.n169_ntmps ρ
 go_wp2
 go_region_o
 all_goals (go_wp2;go_ret;exact⟨rfl,But.drew _ w⟩)
set_option maxHeartbeats 1000000 in
set_option maxRecDepth 100000 in
theorem qN (L:Lays.n169 P ρ) (X:Builder.Extra P ρ) (b g:Nat) (p:Value) (cur:Array Value) (fz fg:Nat×Nat) (w:World) (hbk:w.heap[b]?=some (.cells #[p,.slice (some ⟨g,0,none⟩) 0 0] (ρ.t 72) fz)) (hg:w.heap[g]?=some (.cells cur (ρ.t 5) fg)) :
 Calls P (ρ.f 169) #[.pointer (some ⟨b,0,none⟩)] w fun e w'=>e = .returned (.string ⟨#[]⟩)/\But none w w':=by
 have hUS:=Any.unsafeString_none L X
 have hlt:b<w.heap.size:=(Array.getElem?_eq_some_iff.1 hbk).1
 have c1:w.drew.cell? ⟨b,1,none⟩=some (.slice (some ⟨g,0,none⟩) 0 0):=by
  have:w.drew.heap[b]?=some (.cells #[p,.slice (some ⟨g,0,none⟩) 0 0] (ρ.t 72) fz):=hbk
  rw[Lib.cell_of_heap this];rfl
 have hSD:(Builtin.unsafeSliceData_ #[(ρ.t 37)] (ρ.t 127) #[.slice (some ⟨g,0,none⟩) 0 0]).run P w.drew = .ok (.pointer (some ⟨w.drew.heap.size,0,none⟩)) (w.drew.alloc (.view ⟨g,0,none⟩ (ρ.t 5))):=
  Lib.run_unsafeSliceData_zero w.drew _ _ (ρ.t 5) L.t127 ⟨g,0,none⟩ 0 ((ρ.t 5),cur.size) (by have hg':w.drew.heap[g]?=some (.cells cur (ρ.t 5) fg):=hg;simp [World.shape?,hg'])
 have c2:(w.drew.alloc (.view ⟨g,0,none⟩ (ρ.t 5))).cell? ⟨b,1,none⟩=some (.slice (some ⟨g,0,none⟩) 0 0):=by
  have:(w.drew.alloc (.view ⟨g,0,none⟩ (ρ.t 5))).heap[b]?=_:=(Lib.alloc_old w.drew _ b hlt).trans hbk
  rw[Lib.cell_of_heap this];rfl
 have c3:(w.alloc (.view ⟨g,0,none⟩ (ρ.t 5))).drew.cell? ⟨b,1,none⟩=some (.slice (some ⟨g,0,none⟩) 0 0):=c2
 have c0:w.cell? ⟨b,1,none⟩=some (.slice (some ⟨g,0,none⟩) 0 0):=c1
 have mixed:=L.mixed
 have t72:=L.t72;have a72:=L.a72;have z72:=L.z72;have v72:=L.v72;have u72:=run_underlying L.t72
 have t70:=L.t70;have a70:=L.a70;have z70:=L.z70;have v70:=L.v70;have u70:=run_underlying L.t70
 have t37:=L.t37;have a37:=L.a37;have z37:=L.z37;have v37:=L.v37;have u37:=run_underlying L.t37
 have t127:=L.t127;have a127:=L.a127;have z127:=L.z127;have v127:=L.v127;have u127:=run_underlying L.t127
 have t3:=L.t3;have a3:=L.a3;have z3:=L.z3;have v3:=L.v3;have u3:=run_underlying L.t3
 have t9:=L.t9;have a9:=L.a9;have z9:=L.z9;have v9:=L.v9;have u9:=run_underlying L.t9
 have t5:=X.t5;have a5:=X.a5;have z5:=X.z5;have v5:=X.v5;have u5:=run_underlying X.t5
 go_enter L.f169,Body.n169_ntmps ρ
 go_wp2
 go_region_o
 all_goals (go_wp2;go_ret;exact⟨rfl,(But.drew _ w).alloc _⟩)
set_option maxHeartbeats 1000000 in
set_option maxRecDepth 100000 in
theorem tX (L:Lays.n169 P ρ) (X:Builder.Extra P ρ) (b g cap:Nat) (p:Value) (fz:Nat×Nat) (w:World) (hc0:cap≠0) (hbk:w.heap[b]?=some (.cells #[p,.slice (some ⟨g,0,none⟩) 0 cap] (ρ.t 72) fz)) :
 Calls P (ρ.f 169) #[.pointer (some ⟨b,0,none⟩)] w fun e w'=>e = .returned (.string ⟨#[]⟩)/\But none w w':=by
 have hUS:=Any.unsafeString_none L X
 have c1:w.drew.cell? ⟨b,1,none⟩=some (.slice (some ⟨g,0,none⟩) 0 cap):=by
  have:w.drew.heap[b]?=some (.cells #[p,.slice (some ⟨g,0,none⟩) 0 cap] (ρ.t 72) fz):=hbk
  rw[Lib.cell_of_heap this];rfl
 have hSD:(Builtin.unsafeSliceData_ #[(ρ.t 37)] (ρ.t 127) #[.slice (some ⟨g,0,none⟩) 0 cap]).run P w.drew = .ok (.pointer (some ⟨g,0,none⟩)) w.drew:=
  Lib.run_unsafeSliceData_row _ _ _ _ _ _ hc0
 clear hc0
 have mixed:=L.mixed
 have t72:=L.t72;have a72:=L.a72;have z72:=L.z72;have v72:=L.v72;have u72:=run_underlying L.t72
 have t70:=L.t70;have a70:=L.a70;have z70:=L.z70;have v70:=L.v70;have u70:=run_underlying L.t70
 have t37:=L.t37;have a37:=L.a37;have z37:=L.z37;have v37:=L.v37;have u37:=run_underlying L.t37
 have t127:=L.t127;have a127:=L.a127;have z127:=L.z127;have v127:=L.v127;have u127:=run_underlying L.t127
 have t3:=L.t3;have a3:=L.a3;have z3:=L.z3;have v3:=L.v3;have u3:=run_underlying L.t3
 have t9:=L.t9;have a9:=L.a9;have z9:=L.z9;have v9:=L.v9;have u9:=run_underlying L.t9
 have t5:=X.t5;have a5:=X.a5;have z5:=X.z5;have v5:=X.v5;have u5:=run_underlying X.t5
 go_enter L.f169,Body.n169_ntmps ρ
 go_wp2
 go_region_o
 all_goals (go_wp2;go_ret;exact⟨rfl,But.drew _ w⟩)
end
end Go.Proofs.YteffjmaadkkmeaaGreatDoor
set_option maxRecDepth 8000
namespace Go.Proofs.YteffjmaadkkmeaaGreatDoor
open Go Go.Dv
open Go.Vc (D cY d3 cN bk)
open Go.Vc (CellF RowF ValsF okV vis)
theorem rh {w:World}:∀ {l:List UInt8} {vs:List Value} {G:List Nat},ValsF w (aO l) vs G->∀(j:Nat) (x:UInt8),l[j]?=some x->vs[j]?=some (Value.int .u8 (x.toNat:Int))
 | [],vs,G,_,j,b,hj=>by simp at hj
 |c::r,[],G,hv,_,_,_=>hv.elim
 |c::r,v::t,G,hv,0,b,hj=>by
  obtain⟨F1,F2,h1,h2,_⟩:=hv
  simp at hj;subst hj;obtain⟨rfl,_⟩:=h1;rfl
 |c::r,v::t,G,hv,j+1,b,hj=>by
  obtain⟨F1,F2,h1,h2,_⟩:=hv
  simpa using rh h2 j b (by simpa using hj)
theorem zA (bs:List UInt8) (hbl:bs.length<=100000000):Cl Tryz.prog 255 [.c (.p 9000 0)] [[.self,.ow 5 bs.length (aO bs) none]] fun r os=>r=vs ⟨bs.toArray⟩/\os=[[.dead,.dead]]:=by
 refine⟨by kernel_rfl,fun w β ok0 vals ha ho hg=>?_⟩
 have hL:lent [.c (.p 9000 0)] [[.self,.ow 5 bs.length (aO bs) none]]=[(9000,.str [.self,.s 19200 bs.length]),(19200,.arr 5 bs.length (aO bs) none)]:=rfl
 have hB:back (vs ⟨bs.toArray⟩) [[.dead,.dead]]=[(9000,.str [.dead,.dead])]:=rfl
 rw[hL] at ha ho hg ⊢
 cases vals with
 |nil=>exact ha.elim
 |cons v0 r=>
  cases r with
  |cons _ _=>exact ha.2.elim
  |nil=>
   obtain⟨b,hb,rfl⟩:=ha.1
   obtain⟨b',cells,ty,lh,hb',hc,hlh,hsf,hrel⟩:=ho.rel 9000 _ rfl
   have:b'=b:=by rw[hb] at hb';injection hb' with e;exact e.symm
   subst this
   obtain⟨rfl,hp⟩:=hsf 0 rfl
   obtain⟨p,v,hcl⟩:∃p v,cells = #[p,v]:=by
    have:=hrel.length
    have h2:cells.toList.length=2:=by rw[<-this];rfl
    match hq:cells.toList,h2 with
    | [p,v],_=>exact⟨p,v,by rw[<-Array.toArray_toList (xs:=cells),hq]⟩
   subst hcl
   have hv:OwnS Tryz.prog w (β 19200) bs.length v:=hrel.2.1
   have how:ownB [(9000,.str [.self,.s 19200 bs.length]),(19200,.arr 5 bs.length (aO bs) none)] β b':=⟨9000,_,rfl,hb⟩
   have fin:∀(g:Option Nat) (w':World),(∀y,g=some y->β 19200=some y)->But g w w'->∃v r objs' β',Ending.returned (.string ⟨bs.toArray⟩) = .returned v/\(r=vs ⟨bs.toArray⟩/\objs'=[[.dead,.dead]]) /\
    Post Tryz.prog w β ok0 [(9000,.str [.self,.s 19200 bs.length]),(19200,.arr 5 bs.length (aO bs) none)] 1 v w' r objs' β':=by
    intro g w' hgo hbut
    have hgb:g≠some b':=fun e=>by
     have:=ho.inj 9000 19200 _ _ b' rfl rfl hb (hgo b' e)
     cases this
    refine⟨_,vs ⟨bs.toArray⟩,[[.dead,.dead]],β,rfl,⟨rfl,rfl⟩,?_⟩
    refine⟨⟨rfl,?_⟩,?_,fun _ _=>rfl,rfl,?_,hbut.size,⟨hbut.os,hbut.tape,hbut.output⟩,?_,rfl⟩
    ·show ByteArray.size ⟨bs.toArray⟩<=maxLen
     show (List.toArray _).size<=maxLen
     simp only[List.size_toArray,maxLen];omega
    ·rw[hB]
     refine⟨fun i o hl=>?_,fun i j o o' x hl hl' _ _=>?_⟩
     ·have hi:i=9000:=by
       simp only[Go.Dv.look] at hl
       split at hl
       ·rename_i e;exact e.symm
       ·cases hl
      subst hi
      simp only[Go.Dv.look,if_true] at hl;injection hl with hl;subst hl
      exact⟨b',#[p,v],223,lh,hb,(hbut.keep b' (bx hc) hgb).trans hc,hlh,SelfOk.none (fun x hx=>by simp at hx;subst hx;exact fun e=>by cases e),⟨trivial,trivial,trivial⟩⟩
     ·have a1:∀ {i:Nat} {o:O},Go.Dv.look [(9000,O.str [.dead,.dead])] i=some o->i=9000:=fun {i o} hl=>by
       simp only[Go.Dv.look] at hl
       split at hl
       ·rename_i e;exact e.symm
       ·cases hl
      rw[a1 hl,a1 hl']
    ·rw[hB]
     refine⟨hbut.size,fun y hy hn=>hbut.keep y hy fun e=>hn ⟨19200,_,rfl,hgo y e⟩,fun y _ ⟨i,o,hl,hy⟩=>?_,fun y cs ty2 lh2 hy=>?_⟩
     ·have hi:i=9000:=by
       simp only[Go.Dv.look] at hl
       split at hl
       ·rename_i e;exact e.symm
       ·cases hl
      subst hi
      exact⟨9000,_,rfl,hy⟩
     ·by_cases e:g=some y
      ·obtain⟨lh',h1⟩:=hbut.cells y e cs ty2 lh2 hy
       exact⟨cs,lh',h1,rfl⟩
      ·exact⟨cs,lh2,(hbut.keep y (bx hy) e).trans hy,rfl⟩
    ·exact⟨List.nodup_nil,fun y hy=>by cases hy⟩
   have empty:∀(w':World),bs.length=0->But none w w'->∃v r objs' β',Ending.returned (.string ⟨#[]⟩) = .returned v/\(r=vs ⟨bs.toArray⟩/\objs'=[[.dead,.dead]]) /\
    Post Tryz.prog w β ok0 [(9000,.str [.self,.s 19200 bs.length]),(19200,.arr 5 bs.length (aO bs) none)] 1 v w' r objs' β':=by
    intro w' h0 hbut
    have:=fin none w' (fun y e=>by cases e) hbut
    have hbs:bs=[]:=List.eq_nil_of_length_eq_zero h0
    rw[hbs] at this ⊢
    exact this
   rcases hbg:β 19200 with _|g
   ·rw[hbg] at hv
    obtain⟨h0,rfl⟩:=hv
    refine (tW Tryz.lays169 Tryz.Builder_Extra_169 b' p lh w hc).mono ?_
    rintro e w' ⟨rfl,hbut⟩
    exact empty w' h0 hbut
   ·rw[hbg] at hv
    obtain⟨cap,cs,ty,lhg,rfl,hnc,hcm,hcg,hsz⟩:=hv
    rcases ho.rel 19200 _ rfl with⟨h1,_⟩|⟨g',vs',hd,junk,G,lh',h1,h2,hlh',h3,h4,h5,h6,h7⟩
    ·rw[hbg] at h1;cases h1
    rw[hbg] at h1;injection h1 with h1;subst h1
    rw[hcg] at h2;injection h2 with h2;injection h2 with e1 e2 e3
    subst e1 e2 e3
    have hcs:cap*1<=cs.size:=hsz 1 (by kernel_rfl)
    by_cases h0:bs.length=0
    ·by_cases hc0:cap=0
     ·subst hc0
      rw[h0] at hc
      refine (qN Tryz.lays169 Tryz.Builder_Extra_169 b' g p cs lh lhg w hc hcg).mono ?_
      rintro e w' ⟨rfl,hbut⟩
      exact empty w' h0 hbut
     ·rw[h0] at hc
      refine (tX Tryz.lays169 Tryz.Builder_Extra_169 b' g cap p lh w hc0 hc).mono ?_
      rintro e w' ⟨rfl,hbut⟩
      exact empty w' h0 hbut
    ·refine (tV Tryz.lays169 Tryz.Builder_Extra_169 b' g cap p cs lh bs w (fun e=>h0 (by rw[e];rfl)) hc ⟨lhg,hcg⟩ hnc hcm (by omega) (fun j x hx=>?_)).mono ?_
     ·have:=rh h4 j x hx
      rw[h3,List.getElem?_append_left (List.getElem?_eq_some_iff.1 this).1];exact this
     ·rintro e w' ⟨rfl,hbut⟩
      exact fin (some g) w' (fun y e=>by rw[hbg];exact e) hbut
end Go.Proofs.YteffjmaadkkmeaaGreatDoor
set_option maxRecDepth 8000
namespace Go.Proofs.YteffjmaadkkmeaaGreatDoor
open Go Go.Dv
open Go.Vc (D cY d3 cN bk)
open Go.Lib in
theorem mb:∀(l:List UInt8) (acc m:Nat),decFrom acc l=some m->acc<=m
 | [],acc,m,h=>by simp only[decFrom,Option.some.injEq] at h;omega
 |b::r,acc,m,h=>by
  simp only[decFrom] at h
  split at h
  ·have:=mb r _ m h;omega
  ·cases h
open Go.Lib in
theorem ri:∀(l:List UInt8) (acc m:Nat),decFrom acc l=some m->m<18446744073709551616->parseUint10 acc l = .ok m
 | [],acc,m,h,_=>by simp only[decFrom,Option.some.injEq] at h;subst h;rfl
 |b::r,acc,m,h,hm=>by
  simp only[decFrom,digitVal] at h
  split at h
  ·rename_i d hd
   split at hd
   ·rename_i hb
    injection hd with hd
    have:=mb r _ m h
    simp only[parseUint10,if_pos hb]
    rw[if_neg (by omega),if_neg (by omega),hd]
    exact ri r _ m h hm
   ·cases hd
  ·cases h
open Go.Lib in
theorem gC:∀(l:List UInt8) (acc:Nat) (b:UInt8),decFrom acc (l++[b])=match decFrom acc l,digitVal b with|some n,some d=>some (n*10+d)|_,_=>none
 | [],acc,b=>by simp only[List.nil_append,decFrom];cases digitVal b<;>rfl
 |c::r,acc,b=>by
  simp only[List.cons_append,decFrom]
  cases digitVal c with
  |none=>rfl
  |some d=>exact gC r _ b
open Go.Lib in
theorem sC {l:List UInt8} {i:Nat} {b:UInt8} (hb:l[i]?=some b) (hd:digitVal b=none):∀acc,decFrom acc l=none:=by
 induction l generalizing i with
 |nil=>simp at hb
 |cons c r ih=>
  intro acc
  simp only[decFrom]
  cases i with
  |zero=>simp only[List.getElem?_cons_zero,Option.some.injEq] at hb;subst hb;rw[hd]
  |succ i=>
   cases digitVal c with
   |none=>rfl
   |some d=>exact ih (by simpa using hb) _
open Go.Lib in
theorem oF {d:Nat} (h:d<10):digitVal (UInt8.ofNat (48+d))=some d:=by
 have e:(UInt8.ofNat (48+d)).toNat=48+d:=by simp;omega
 unfold digitVal
 rw[e,if_pos (by omega)]
 congr 1;omega
open Go.Lib in
theorem gM (u:Nat):decFrom 0 (decDigits u)=some u:=by
 induction u using Nat.strongRecOn with
 |ind u ih=>
  rw[decDigits]
  split
  ·rename_i h
   have:=gC [] 0 (UInt8.ofNat (48+u))
   rw[oF h] at this
   simpa [decFrom] using this
  ·rename_i h
   rw[gC,ih (u / 10) (by omega),oF (by omega)]
   simp only[Option.some.injEq];omega
open Go.Lib in
theorem kd (u:Nat):∃b r,decDigits u=b::r/\48<=b.toNat/\b.toNat<=57:=by
 induction u using Nat.strongRecOn with
 |ind u ih=>
  rw[decDigits]
  split
  ·rename_i h
   exact⟨_,[],rfl,by simp;omega,by simp;omega⟩
  ·rename_i h
   obtain⟨b,r,h1,h2⟩:=ih (u / 10) (by omega)
   rw[h1]
   exact⟨b,_,rfl,h2⟩
open Go.Lib in
def i8 (l:List UInt8):Option Nat:=match decFrom 0 l with
 |some m=>if m<9223372036854775808/\decDigits m=l then some m else none
 |none=>none
open Go.Lib in
theorem et {l:List UInt8} {m:Nat}:i8 l=some m↔m<9223372036854775808/\decDigits m=l:=by
 unfold i8
 constructor
 ·intro h
  split at h
  ·split at h
   ·rename_i hc;injection h with h;subst h;exact hc
   ·cases h
  ·cases h
 ·rintro⟨h1,rfl⟩
  rw[gM]
  simp [h1]
open Go.Lib in
theorem pI (m:Nat):itoa (m:Int)=decDigits m:=by
 unfold itoa
 rw[if_neg (by omega)];rfl
open Go.Lib in
theorem nO {l:List UInt8} {m:Nat} (h:i8 l=some m):atoiAll l = .ok (m:Int):=by
 obtain⟨h1,rfl⟩:=et.1 h
 obtain⟨b,r,hb,h2,h3⟩:=kd m
 have hd:=gM m
 rw[hb] at hd ⊢
 rw[atoiAll_plain b r (by omega) (by omega)]
 unfold parseMag
 rw[if_neg (by simp),ri _ _ _ hd (by omega)]
 simp only[signless]
 rw[if_neg (by omega)]
open Go.Lib in
theorem yc {l:List UInt8} {v:Int} (h:atoiAll l = .ok v) (h0:0<=v) (hi:itoa v=l):i8 l=some v.toNat:=by
 have hb:=atoiAll_bounds h
 refine et.2 ⟨by omega,?_⟩
 rw[<-hi]
 unfold itoa
 rw[if_neg (by omega)]
end Go.Proofs.YteffjmaadkkmeaaGreatDoor
set_option maxRecDepth 8000
namespace Go.Proofs.YteffjmaadkkmeaaGreatDoor
open Go Go.Dv
open Go.Vc (D cY d3 cN bk)
abbrev irow (n:Int):List D:=[int n]
mutual
inductive Expr where
 |mk (kind:Int) (op:Int) (not:Bool) (val:Val) (qual:ByteArray) (name:ByteArray) (kids:List Expr) (sub:List Query)
inductive Item where
 |mk (star:Bool) (qual:ByteArray) (e:Expr) (as_:ByteArray)
inductive Source where
 |mk (table:ByteArray) (as_:ByteArray) (on:List Expr)
inductive SortKey where
 |mk (e:Expr) (desc:Bool)
inductive Query where
 |mk (distinct:Bool) (items:List Item) (from_:List Source) (where_:List Expr) (order:List SortKey) (limit:Int)
end
mutual
def Expr.row:Expr->List D
 |.mk kind op not val qual name kids sub=>int kind::int op::bool not::int val.kind::int val.num::str val.text::str qual::str name :: .sl kids.length (gN kids) :: .sl sub.length (iR sub)::[]
def Item.row:Item->List D
 |.mk star qual e as_=>bool star::str qual::(e.row++str as_::[])
def Source.row:Source->List D
 |.mk table as_ on=>str table::str as_ :: .sl on.length (gN on)::[]
def SortKey.row:SortKey->List D
 |.mk e desc=>(e.row++bool desc::[])
def Query.row:Query->List D
 |.mk distinct items from_ where_ order limit=>bool distinct :: .sl items.length (ke items) :: .sl from_.length (gO from_) :: .sl where_.length (gN where_) :: .sl order.length (gc order)::int limit::[]
def gN:List Expr->List D
 | []=>[]
 |x::r=>x.row++gN r
def ke:List Item->List D
 | []=>[]
 |x::r=>x.row++ke r
def iR:List Query->List D
 | []=>[]
 |x::r=>x.row++iR r
def gc:List SortKey->List D
 | []=>[]
 |x::r=>x.row++gc r
def gO:List Source->List D
 | []=>[]
 |x::r=>x.row++gO r
end
theorem ii:∀l:List Expr,gN l=l.flatMap Expr.row
 | []=>by rw[gN,List.flatMap_nil]
 |x::r=>by rw[gN,List.flatMap_cons,ii r]
theorem oG:∀l:List Item,ke l=l.flatMap Item.row
 | []=>by rw[ke,List.flatMap_nil]
 |x::r=>by rw[ke,List.flatMap_cons,oG r]
theorem mI:∀l:List Query,iR l=l.flatMap Query.row
 | []=>by rw[iR,List.flatMap_nil]
 |x::r=>by rw[iR,List.flatMap_cons,mI r]
theorem kf:∀l:List SortKey,gc l=l.flatMap SortKey.row
 | []=>by rw[gc,List.flatMap_nil]
 |x::r=>by rw[gc,List.flatMap_cons,kf r]
theorem lL:∀l:List Source,gO l=l.flatMap Source.row
 | []=>by rw[gO,List.flatMap_nil]
 |x::r=>by rw[gO,List.flatMap_cons,lL r]
theorem Expr.row_mk (kind:Int) (op:Int) (not:Bool) (val:Val) (qual:ByteArray) (name:ByteArray) (kids:List Expr) (sub:List Query):(Expr.mk kind op not val qual name kids sub).row=int kind::int op::bool not::int val.kind::int val.num::str val.text::str qual::str name :: .sl kids.length (kids.flatMap Expr.row) :: .sl sub.length (sub.flatMap Query.row)::[]:=by rw[Expr.row,ii,mI]
theorem Item.row_mk (star:Bool) (qual:ByteArray) (e:Expr) (as_:ByteArray):(Item.mk star qual e as_).row=bool star::str qual::(e.row++str as_::[]):=by rw[Item.row]
theorem Source.row_mk (table:ByteArray) (as_:ByteArray) (on:List Expr):(Source.mk table as_ on).row=str table::str as_ :: .sl on.length (on.flatMap Expr.row)::[]:=by rw[Source.row,ii]
theorem SortKey.row_mk (e:Expr) (desc:Bool):(SortKey.mk e desc).row=(e.row++bool desc::[]):=by rw[SortKey.row]
theorem Query.row_mk (distinct:Bool) (items:List Item) (from_:List Source) (where_:List Expr) (order:List SortKey) (limit:Int):(Query.mk distinct items from_ where_ order limit).row=bool distinct :: .sl items.length (items.flatMap Item.row) :: .sl from_.length (from_.flatMap Source.row) :: .sl where_.length (where_.flatMap Expr.row) :: .sl order.length (order.flatMap SortKey.row)::int limit::[]:=by rw[Query.row,ii,oG,kf,lL]
theorem Expr.row_len (x:Expr):x.row.length=10:=by cases x;simp [Expr.row]
theorem Expr.tk (x:Expr) (r:List D):eE 10 (x.row++r)=some x.row:=cx (Expr.row_len x)
theorem Expr.ne (x:Expr) (r:List D):x.row++r≠[]:=fun h=>by have:=congrArg List.length h;simp [Expr.row_len] at this
theorem Source.row_len (x:Source):x.row.length=3:=by cases x;simp [Source.row]
theorem Source.ne (x:Source) (r:List D):x.row++r≠[]:=fun h=>by have:=congrArg List.length h;simp [Source.row_len] at this
theorem Query.row_len (x:Query):x.row.length=6:=by cases x;simp [Query.row]
theorem Query.tk (x:Query) (r:List D):eE 6 (x.row++r)=some x.row:=cx (Query.row_len x)
theorem Query.ne (x:Query) (r:List D):x.row++r≠[]:=fun h=>by have:=congrArg List.length h;simp [Query.row_len] at this
theorem Item.row_len (x:Item):x.row.length=13:=by cases x;simp [Item.row,Expr.row_len]
theorem Item.tk (x:Item) (r:List D):eE 13 (x.row++r)=some x.row:=cx (Item.row_len x)
theorem Item.ne (x:Item) (r:List D):x.row++r≠[]:=fun h=>by have:=congrArg List.length h;simp [Item.row_len] at this
theorem SortKey.row_len (x:SortKey):x.row.length=11:=by cases x;simp [SortKey.row,Expr.row_len]
theorem SortKey.ne (x:SortKey) (r:List D):x.row++r≠[]:=fun h=>by have:=congrArg List.length h;simp [SortKey.row_len] at this
mutual
def aw:Expr->Nat
 |.mk kind op not val qual name kids sub=>De val+(qual.size+(name.size+(cT kids+(gP sub))))
def jo:Item->Nat
 |.mk star qual e as_=>qual.size+(aw e+(as_.size))
def bW:Source->Nat
 |.mk table as_ on=>table.size+(as_.size+(cT on))
def eu:SortKey->Nat
 |.mk e desc=>aw e
def aP:Query->Nat
 |.mk distinct items from_ where_ order limit=>ij items+(cK from_+(cT where_+(ec order)))
def cT:List Expr->Nat
 | []=>0
 |x::r=>aw x+1+cT r
def ij:List Item->Nat
 | []=>0
 |x::r=>jo x+1+ij r
def gP:List Query->Nat
 | []=>0
 |x::r=>aP x+1+gP r
def ec:List SortKey->Nat
 | []=>0
 |x::r=>eu x+1+ec r
def cK:List Source->Nat
 | []=>0
 |x::r=>bW x+1+cK r
end
theorem az:∀l:List Expr,cT l=l.length+(l.map aw).sum
 | []=>by rw[cT];rfl
 |x::r=>by rw[cT,az r,List.length_cons,List.map_cons,List.sum_cons];omega
theorem db:∀l:List Item,ij l=l.length+(l.map jo).sum
 | []=>by rw[ij];rfl
 |x::r=>by rw[ij,db r,List.length_cons,List.map_cons,List.sum_cons];omega
theorem cg:∀l:List Query,gP l=l.length+(l.map aP).sum
 | []=>by rw[gP];rfl
 |x::r=>by rw[gP,cg r,List.length_cons,List.map_cons,List.sum_cons];omega
theorem bK:∀l:List SortKey,ec l=l.length+(l.map eu).sum
 | []=>by rw[ec];rfl
 |x::r=>by rw[ec,bK r,List.length_cons,List.map_cons,List.sum_cons];omega
theorem cc:∀l:List Source,cK l=l.length+(l.map bW).sum
 | []=>by rw[cK];rfl
 |x::r=>by rw[cK,cc r,List.length_cons,List.map_cons,List.sum_cons];omega
theorem dq (kind:Int) (op:Int) (not:Bool) (val:Val) (qual:ByteArray) (name:ByteArray) (kids:List Expr) (sub:List Query):aw (.mk kind op not val qual name kids sub)=De val+(qual.size+(name.size+(cT kids+(gP sub)))):=by rw[aw]
theorem nP (star:Bool) (qual:ByteArray) (e:Expr) (as_:ByteArray):jo (.mk star qual e as_)=qual.size+(aw e+(as_.size)):=by rw[jo]
theorem cI (table:ByteArray) (as_:ByteArray) (on:List Expr):bW (.mk table as_ on)=table.size+(as_.size+(cT on)):=by rw[bW]
theorem jp (e:Expr) (desc:Bool):eu (.mk e desc)=aw e:=by rw[eu]
theorem dc (distinct:Bool) (items:List Item) (from_:List Source) (where_:List Expr) (order:List SortKey) (limit:Int):aP (.mk distinct items from_ where_ order limit)=ij items+(cK from_+(cT where_+(ec order))):=by rw[aP]
end Go.Proofs.YteffjmaadkkmeaaGreatDoor
namespace Go.Cv
open Go Go.RowKit Go.Dv
open Go.Vc (iA bq dP vis aV CellF RowF ValsF D inN okV bf cQ jI aL TS sizeTS da an g9 bJ nG pu dO bu kX jJ eP inN inN_iff Plan dsts dstsOps y3 i6)
abbrev K1:=Rg->World->Prop
structure Gr (w w':World):Prop where
 size:w.heap.size<=w'.heap.size
 keep:∀b,b<w.heap.size->w'.heap[b]?=w.heap[b]?
 os:w'.os=w.os
 tape:w'.tape=w.tape
 output:w'.output=w.output
end Go.Cv
namespace Go.Cv
open Go Go.RowKit Go.Dv
open Go.Vc (vis aV CellF RowF ValsF D okV y3 Chg Grow bJ bf)
def Res (P:Program) (w w':World) (r:S) (v:Value):Prop:=
 ∃ β ok,RelS P w' β ok (expS 9700 r) v/\(∀b,ok b -> ¬ownB (back r []) β b)/\(∀i o,Go.Dv.look (back r []) i=some o->RelO P w' β ok i o)/\(∀b,ownB (back r []) β b->w.heap.size<=b) /\
  (fps r []).flatten.Nodup/\(∀b∈(fps r []).flatten,w.heap.size<=b/\∃cs t lh,w'.heap[b]?=some (.cells cs t lh)/\Lh cs.size lh)
section
variable {P:Program} {w w':World}
theorem Cl.at {g:FuncId} {args:List S} {R:S->List (List C)->Prop} (h:Cl P g args [] R) (hp:df (args.flatMap bh)=true) {vs:List Value}
 (hv:RelA P w (fun _=>none) (fun _=>True) args vs) (hg:GlW w (fun _=>False)) :
 bf P g=true/\Calls P g vs.toArray w fun e w'=>∃v,e = .returned v/\∃r,R r []/\Gr w w'/\Res P w w' r v:=by
 obtain⟨e1,e2⟩:=mt 9500 hp
 have el:lent args []=[]:=by simp [lent,e2,gG]
 have hno:∀ β b,¬ownB [] β b:=fun β b ⟨i,o,h1,_⟩=>by simp [Go.Dv.look] at h1
 have hok:qJ (fun _=>True) (lent args []) (fun _=>none)=fun _=>True:=by
  funext b
  simp [qJ,el,hno]
 refine⟨h.1,(h.2 w (fun _=>none) (fun _=>True) vs ?_ ?_ ?_).mono ?_⟩
 ·rw[e1,hok];exact hv
 ·rw[el];exact⟨fun i o hl=>by simp [Go.Dv.look] at hl,fun i j o o' b hl=>by simp [Go.Dv.look] at hl⟩
 ·exact hg.mono (fun _ _ _=>rfl) fun b hb _=>by rw[el] at hb;exact (hno _ _ hb).elim
 ·rintro e W' ⟨v,r,objs,β,rfl,hR,hP⟩
  have ho:objs=[]:=List.eq_nil_of_length_eq_zero (by simpa using hP.len)
  subst ho
  refine⟨v,rfl,r,hR,⟨hP.tr.size,fun b hb=>hP.tr.keep b hb (by rw[el];exact hno _ b),hP.outer.1,hP.outer.2.1,hP.outer.2.2⟩,β,_,hP.rel,fun b hb=>hb.1,hP.obs.rel,fun b hb=>?_,hP.fresh.1,fun b hb=>?_⟩
  ·by_cases hlt:b<w.heap.size
   ·have:=hP.tr.own b hlt hb
    rw[el] at this;exact (hno _ _ this).elim
   ·omega
  ·obtain⟨h1,h2,_⟩:=hP.fresh.2 b hb
   refine⟨h1.elim id fun h=>?_,h2⟩
   rw[el] at h;exact (hno _ _ h).elim
theorem Res.val {x v:Value} (h:Res P w w' (.c (.v x)) v):v=x:=by
 obtain⟨β,ok,h,_⟩:=h
 exact h.1
end
def aB:List D->List (List (List Nat))->List C
 |.lit v::r,Fs=>.v v::aB r Fs
 |.sl n ds::r,F::Fs=>.sl n ds (some F)::aB r Fs
 |.sl n ds::r,[]=>.sl n ds none::aB r []
 | [],_=>[]
theorem aK {F G:List Nat} (h:∀x,F.count x<=G.count x):Sb F G:=h
end Go.Cv
set_option maxRecDepth 8000
namespace Go.Proofs.YteffjmaadkkmeaaGreatDoor
open Go Go.Dv
open Go.Vc (D cY d3 cN bk)
structure Tok where
 kind:Int
 text:ByteArray
 at_:Int
def Tok.row (t:Tok):List D:=[int t.kind,str t.text,int t.at_]
theorem Tok.row_len (t:Tok):t.row.length=3:=rfl
theorem Tok.tk (t:Tok) (r:List D):eE 3 (t.row++r)=some t.row:=cx rfl
theorem Tok.ne (t:Tok) (r:List D):t.row++r≠[]:=fun h=>by cases h
def signs:List ByteArray:=[⟨#[40]⟩,⟨#[41]⟩,⟨#[44]⟩,⟨#[46]⟩,⟨#[42]⟩,⟨#[43]⟩,⟨#[45]⟩,⟨#[47]⟩,⟨#[37]⟩,⟨#[61]⟩,⟨#[60,62]⟩,⟨#[60]⟩,⟨#[60,61]⟩,⟨#[62]⟩,⟨#[62,61]⟩,⟨#[124,124]⟩]
def eU (s:ByteArray):Bool:=signs.any fun x=>decide (s=x)
theorem tY (s:ByteArray):Cl Tryz.prog 180 [vs s] [] fun r _=>r=vb (eU s):=by
 refine ae ab false Tryz.func180 rfl (by kernel_rfl) ?_
 simp only[Tryz.f180,tt,seval]
 all_goals repeat' first|(refine aa (fun h=>?_) (fun h=>?_)<;>try simp only[tt,seval])|(intro _;try simp only[tt,seval])
 all_goals first|contradiction|exact⟨_,_,aE (by simp [eU,signs, *]),ai rfl⟩
theorem wV:Cl Tryz.prog 237 [] [] fun r _=>r = .c (.sl 16 (signs.flatMap srow) none):=by
 refine ae ab false Tryz.func237 rfl (by kernel_rfl) ?_
 simp only[tt,seval,Tryz.f237]
 refine⟨_,[],rfl,am ?_⟩
 simp only[tt,seval,signs,srow]
theorem yd (s:ByteArray):decide (0<=mE s signs)=eU s:=by
 unfold mE eU
 by_cases h:signs.findIdx (fun w=>decide (w=s))<signs.length
 ·rw[if_pos h]
  have:=List.findIdx_getElem (w:=h)
  have hm:=aI h
  refine (ap (by omega)).trans (Eq.symm ?_)
  rw[List.any_eq_true]
  exact⟨_,hm,by simpa [eq_comm] using this⟩
 ·rw[if_neg h]
  refine (ao (by omega)).trans (Eq.symm ?_)
  rw[List.any_eq_false]
  intro x hx
  have:=List.findIdx_lt_length (xs:=signs) (p:=fun w=>decide (w=s))
  simp only[h,false_iff,not_exists,not_and] at this
  simpa [eq_comm] using this x hx
theorem vN (s:ByteArray):Cl Tryz.prog 304 [.c (.sl 16 (signs.flatMap srow) none),vs s] [] fun r _=>r=vb (eU s):=by
 refine ae ab false Tryz.func304 rfl (by kernel_rfl) ?_
 simp only[Tryz.f304,tt,seval]
 refine cZ (wS signs s) ?_ ?_<;>simp only[tt,seval,show signs.length=16 from rfl]
 exact⟨_,_,aE (by rw[<-yd]),ai rfl⟩
theorem yf (s:ByteArray):Cl Tryz.prog 268 [vs s] [] fun r _=>r=vb (eU s):=by
 refine ae ab false Tryz.func268 rfl (by kernel_rfl) ?_
 simp only[Tryz.f268,tt,seval]
 refine cZ (wV) ?_ ?_<;>simp only[tt,seval]
 refine cZ (vN s) ?_ ?_<;>simp only[tt,seval]
 exact⟨_,_,rfl,ai rfl⟩
def DA:List ByteArray:=⟨#[]⟩::[⟨#[79,82]⟩,⟨#[65,78,68]⟩,⟨#[61]⟩,⟨#[60,62]⟩,⟨#[60]⟩,⟨#[60,61]⟩,⟨#[62]⟩,⟨#[62,61]⟩,⟨#[124,124]⟩,⟨#[43]⟩,⟨#[45]⟩,⟨#[42]⟩,⟨#[47]⟩,⟨#[37]⟩,⟨#[78,79,84]⟩,⟨#[45]⟩]
def oH (k:Int):ByteArray:=if 1<=k/\k<=16 then DA.getD k.toNat ⟨#[]⟩ else ⟨#[]⟩
def kw (k:Nat):ByteArray:=oD.getD k ⟨#[]⟩
theorem tZ {α:Type} {row:α->List D} {w:Nat} {l r:List α} {x:α} (h:l=x::r) (hl:∀x,(row x).length=w+1) (C:List D->Prop):(∃ds',l.flatMap row=ds' /\ ¬ds'=[]/\C ds')=C (row x++r.flatMap row):=by
 subst h
 rw[List.flatMap_cons]
 exact propext ⟨fun ⟨_,h1,_,h3⟩=>h1▸h3,fun h=>⟨_,rfl,fun h0=>by have:=congrArg List.length h0;rw[aA,hl] at this;simp at this,h⟩⟩
theorem bi {α:Type} {row:α->List D} {w:Nat} {l:List α} {i:Nat} {x:α} (hx:l[i]?=some x) (hl:∀x,(row x).length=w+1) (C:List D->Prop):(∃ds',(l.flatMap row).drop (i*(w+1))=ds' /\ ¬ds'=[]/\C ds')=C (row x++(l.drop (i+1)).flatMap row):=by
 rw[aF hl hx]
 exact propext ⟨fun ⟨_,h1,_,h3⟩=>h1▸h3,fun h=>⟨_,rfl,fun h0=>by have:=congrArg List.length h0;rw[aA,hl] at this;simp at this,h⟩⟩
end Go.Proofs.YteffjmaadkkmeaaGreatDoor
set_option maxRecDepth 8000
namespace Go.Proofs.YteffjmaadkkmeaaGreatDoor
open Go Go.Dv
open Go.Vc (D cY d3 cN bk)
open Go.RowKit (Below)
theorem rj (k:Nat) (h1:1<=k) (h2:k<=28):Cl Tryz.prog 161 [vi k] [] fun r _=>r=vs (kw k):=by
 refine ae ab false Tryz.func161 rfl (by kernel_rfl) ?_
 simp only[Tryz.f161,tt,seval]
 refine cZ (cF k 1 28) ?_ ?_<;>simp only[tt,seval]
 simp only[tt,seval,ap (show (1:Int)<=k/\(k:Int)<=28 by omega)]
 refine cZ (ra) ?_ ?_<;>simp only[tt,seval]
 have hlt:k<oD.length:=by show _<29;omega
 refine⟨by omega,by omega,_,aF dM (ay hlt),ji _ _,?_⟩
 simp only[tt,seval,srow]
 exact⟨_,_,iQ (by rw[kw,List.getD_eq_getElem?_getD,ay hlt];rfl),ai rfl⟩
theorem C6:([.lit (.string ⟨#[]⟩),.lit (.string ⟨#[79,82]⟩),.lit (.string ⟨#[65,78,68]⟩),.lit (.string ⟨#[61]⟩),.lit (.string ⟨#[60,62]⟩),.lit (.string ⟨#[60]⟩),.lit (.string ⟨#[60,61]⟩),.lit (.string ⟨#[62]⟩),.lit (.string ⟨#[62,61]⟩),.lit (.string ⟨#[124,124]⟩),.lit (.string ⟨#[43]⟩),.lit (.string ⟨#[45]⟩),.lit (.string ⟨#[42]⟩),.lit (.string ⟨#[47]⟩),.lit (.string ⟨#[37]⟩),.lit (.string ⟨#[78,79,84]⟩),.lit (.string ⟨#[45]⟩)]:List D)=DA.flatMap srow:=rfl
theorem zB:([.lit (.string ⟨#[79,82]⟩),.lit (.string ⟨#[65,78,68]⟩),.lit (.string ⟨#[61]⟩),.lit (.string ⟨#[60,62]⟩),.lit (.string ⟨#[60]⟩),.lit (.string ⟨#[60,61]⟩),.lit (.string ⟨#[62]⟩),.lit (.string ⟨#[62,61]⟩),.lit (.string ⟨#[124,124]⟩),.lit (.string ⟨#[43]⟩),.lit (.string ⟨#[45]⟩),.lit (.string ⟨#[42]⟩),.lit (.string ⟨#[47]⟩),.lit (.string ⟨#[37]⟩),.lit (.string ⟨#[78,79,84]⟩),.lit (.string ⟨#[45]⟩)]:List D)=DA.tail.flatMap srow:=rfl
theorem mJ (k:Int):Cl Tryz.prog 220 [vi k] [] fun r _=>r=vs (oH k):=by
 refine ae ab false Tryz.func220 rfl (by kernel_rfl) ?_
 simp only[Tryz.f220,tt,seval]
 refine cZ (cF k 1 16) ?_ ?_<;>simp only[tt,seval]
 refine aa (fun hc=>?_) (fun hc=>?_)
 ·exact⟨_,_,iQ (by rw[oH,if_neg (by simpa only[Bool.not_eq_true',decide_eq_false_iff_not] using hc)]),ai rfl⟩
 ·have hc:1<=k/\k<=16:=by simpa only[Bool.not_eq_false',decide_eq_true_eq] using hc
  have hlt:k.toNat<DA.length:=by show _<17;omega
  refine⟨by omega,by omega,?_⟩
  rw[C6,aF dM (ay hlt)]
  simp only[tt,seval,srow]
  exact⟨_,_,iQ (by rw[oH,if_pos hc,List.getD_eq_getElem?_getD,ay hlt];rfl),ai rfl⟩
theorem fI (k:Int):Cl Tryz.prog 222 [vi k] [] fun r _=>r=vs (oH k):=by
 refine ae ab false Tryz.func222 rfl (by kernel_rfl) ?_
 simp only[Tryz.f222,tt,seval]
 by_cases h1:k<1
 ·simp only[tt,seval,ap h1]
  exact⟨_,_,iQ (by rw[oH,if_neg (by omega)]),ai rfl⟩
 ·simp only[tt,seval,ao h1]
  refine aa (fun h2=>?_) (fun h2=>?_)
  ·exact⟨_,_,iQ (by rw[oH,if_neg (by omega)]),ai rfl⟩
  ·have hc:1<=k/\k<=16:=by omega
   have hlt:(k-1).toNat<DA.tail.length:=by show _<16;omega
   rw[ax (n:=k-1) (by omega) (by omega)]
   refine⟨by omega,by omega,?_⟩
   rw[zB,aF dM (ay hlt)]
   simp only[tt,seval,srow]
   have hlt':k.toNat<DA.length:=by show _<17;omega
   refine⟨_,_,iQ ?_,ai rfl⟩
   rw[oH,if_pos hc,List.getD_eq_getElem?_getD,ay hlt']
   simp only[List.getElem_tail,Option.getD_some,show (k-1).toNat+1=k.toNat by omega]
theorem wW:Tryz.prog.underlying 203=some (.interface (Tryz.prog.methodsAt 203)):=by kernel_rfl
theorem C7 {n:Nat} {d:Option Nat} {K:K0} {f:Rg} {L:Ob} {p:Po} {x:Operand}:bB Tryz.prog n d (do eqGuard .neq 203 x (.const .nilIface) .nilIface .nilIface;binOp .neq 203 .nilIface .nilIface) K f L p=K (put n f d (.c (.v (.bool false)))) L p:=
 b6 (fun w=>by rw[Sem.run_bind];simp [eqGuard,run_neq_nil_nil w 203 wW]) trivial
theorem DB {n:Nat} {d:Option Nat} {K:K0} {f:Rg} {L:Ob} {p:Po} {x y:Operand} {u:TypeId} {v:Value}:bB Tryz.prog n d (do eqGuard .neq 203 x y (.iface u v) .nilIface;binOp .neq 203 (.iface u v) .nilIface) K f L p=K (put n f d (.c (.v (.bool true)))) L p:=
 b6 (fun w=>by rw[Sem.run_bind];simp [eqGuard,run_neq_held_nil w 203 u v wW]) trivial
theorem C8 {w:World} {own:Nat->Prop} (h:GlW w own):(∃v,w.cell? ⟨1,0,none⟩=some v/\(v = .nilIface∨∃t p,v = .iface t p))/\(∃v,w.cell? ⟨2,0,none⟩=some v/\(v = .nilIface∨∃t p,v = .iface t p)):=by
 constructor
 ·obtain⟨_,cs,ty,lh,h2,v,h3,h4⟩:=h _ (List.mem_cons_of_mem _ (List.mem_cons_of_mem _ (List.mem_cons_self)))
  exact⟨v,by simp only[World.cell?,h2];exact h3,h4⟩
 ·obtain⟨_,cs,ty,lh,h2,v,h3,h4⟩:=h _ (List.mem_cons_of_mem _ (List.mem_cons_of_mem _ (List.mem_cons_of_mem _ (List.mem_cons_self))))
  exact⟨v,by simp only[World.cell?,h2];exact h3,h4⟩
def Ep (s:ByteArray) (r:S):Prop:=∃n e,r = .tu [([.v (.int .i64 n)],true),([.v e],true)]/\((e = .nilIface/\Lib.atoiAll s.data.toList = .ok n)∨((∃t p,e = .iface t p)/\∀v,Lib.atoiAll s.data.toList ≠ .ok v))
theorem DC (s:ByteArray) (hs:s.size<=1048576):Cl Tryz.prog 226 [vs s] [] fun r _=>Ep s r:=
 Cl.ofNew (by kernel_rfl) [.string s] fun w hg=>by
  obtain⟨⟨ev,h4,h4'⟩,⟨ev',h5,h5'⟩⟩:=C8 hg
  rcases ha:Lib.atoiAll s.data.toList with v|_|_
  ·skip
   refine (Any.strconv_Atoi_ok Tryz.laysC172 s (by omega) v ha w).mono ?_
   rintro e w' ⟨rfl,hw⟩
   refine⟨_,.tu [([.v (.int .i64 v)],true),([.v .nilIface],true)],rfl,⟨v,_,rfl,.inl ⟨rfl,ha⟩⟩,rfl,fun β=>⟨_,rfl,⟨⟨rfl,trivial⟩,trivial⟩,⟨⟨rfl,trivial⟩,trivial⟩,trivial⟩,?_⟩
   rcases hw with rfl|⟨t,rfl⟩
   ·exact Below.refl _ _
   ·exact Lib.bytesWorld_below _ _ _
  ·refine (Any.strconv_Atoi_syntax Tryz.laysC172 s (by omega) ha ev w h4 h4').mono ?_
   rintro e w' ⟨N,rfl,_,_,hb⟩
   exact⟨_,.tu [([.v (.int .i64 _)],true),([.v (.iface _ _)],true)],rfl,⟨_,_,rfl,.inr ⟨⟨_,_,rfl⟩,fun v h=>by rw[ha] at h;cases h⟩⟩,rfl,fun β=>⟨_,rfl,⟨⟨rfl,trivial⟩,trivial⟩,⟨⟨rfl,trivial⟩,trivial⟩,trivial⟩,hb⟩
  ·refine (Any.strconv_Atoi_range Tryz.laysC172 s (by omega) ha ev' w h5 h5').mono ?_
   rintro e w' ⟨N,rfl,_,_,hb⟩
   exact⟨_,.tu [([.v (.int .i64 _)],true),([.v (.iface _ _)],true)],rfl,⟨_,_,rfl,.inr ⟨⟨_,_,rfl⟩,fun v h=>by rw[ha] at h;cases h⟩⟩,rfl,fun β=>⟨_,rfl,⟨⟨rfl,trivial⟩,trivial⟩,⟨⟨rfl,trivial⟩,trivial⟩,trivial⟩,hb⟩
def mK (s:ByteArray):Bool:=(i8 s.data.toList).isSome
def ic (s:ByteArray):Int:=((i8 s.data.toList).getD 0:Nat)
def lx (s:ByteArray):S:=.tu [([.v (.int .i64 (ic s))],true),([.v (.bool (mK s))],true)]
theorem rk (s:ByteArray) (hs:s.size<=1048576):Cl Tryz.prog 169 [vs s] [] fun r _=>r=lx s:=by
 refine ae ab false Tryz.func169 rfl (by kernel_rfl) ?_
 simp only[Tryz.f169,tt,seval]
 refine hJ (DC s hs) ?_ ?_ ?_
 ·decide
 ·simp only[tt,seval]
 rintro r ⟨n,e,rfl,hh⟩
 simp only[tt,seval]
 rcases hh with⟨rfl,ha⟩|⟨⟨tt',pp,rfl⟩,hne⟩
 ·rw[C7]
  simp only[tt,seval]
  have hb:=Lib.atoiAll_bounds ha
  by_cases hn:n<0
  ·simp only[tt,seval,ap hn]
   have hno:i8 s.data.toList=none:=by
    cases hc:i8 s.data.toList with
    |none=>rfl
    |some m=>have:=nO hc;rw[ha] at this;injection this;omega
   exact⟨_,_,by rw[lx,ic,mK,hno];rfl,ai rfl⟩
  ·simp only[tt,seval,ao hn]
   refine cZ (l5 n (by omega) (by omega)) ?_ ?_<;>simp only[tt,seval]
   refine aa (fun he=>?_) (fun he=>?_)
   ·have he':¬dV n=s:=by simpa only[Bool.not_eq_true',decide_eq_false_iff_not] using he
    have hno:i8 s.data.toList=none:=by
     cases hc:i8 s.data.toList with
     |none=>rfl
     |some m=>
      have h1:=nO hc
      obtain⟨_,h2⟩:=et.1 hc
      rw[ha] at h1
      injection h1 with h1
      refine absurd (m8 ?_) he'
      rw[dV,h1,pI,h2]
    exact⟨_,_,by rw[lx,ic,mK,hno];rfl,ai rfl⟩
   ·have he':dV n=s:=by simpa only[Bool.not_eq_false',decide_eq_true_eq] using he
    have hc:=yc ha (by omega) (by rw[<-he'];rfl)
    exact⟨_,_,by rw[lx,ic,mK,hc];simp only[Option.getD_some,Option.isSome_some,Int.toNat_of_nonneg (show 0<=n by omega)],ai rfl⟩
 ·rw[DB]
  simp only[tt,seval]
  have hno:i8 s.data.toList=none:=by
   cases hc:i8 s.data.toList with
   |none=>rfl
   |some m=>exact absurd (nO hc) (hne _)
  exact⟨_,_,by rw[lx,ic,mK,hno];rfl,ai rfl⟩
theorem mL (s:ByteArray) (hs:s.size<=1048576):Cl Tryz.prog 99 [vs s] [] fun r _=>r=lx s:=by
 obtain⟨l,hl⟩:∃l,l=s.data.toList:=⟨_,rfl⟩
 have hll:l.length=s.size:=by rw[hl];exact aG s
 refine ae ab false Tryz.func99 rfl (by kernel_rfl) ?_
 simp only[Tryz.f99,tt,seval]
 refine fun _=>?_
 have none_of (h:i8 l=none):lx s = .tu [([.v (.int .i64 0)],true),([.v (.bool false)],true)]:=by rw[lx,ic,mK,<-hl,h];rfl
 have fin0 (h:i8 l=none) {L:Ob} {p:Po}:∃r objs,r=lx s/\EndOk L p (.tu [([.v (.int .i64 0)],true),([.v (.bool false)],true)]) r 0 objs:=⟨_,[],rfl,by rw[none_of h];exact ai rfl⟩
 by_cases hs1:(s.size:Int)<1
 ·simp only[tt,seval,ap hs1]
  exact fin0 (by
   cases hc:i8 l with
   |none=>rfl
   |some m=>
    obtain⟨_,h2⟩:=et.1 hc
    obtain⟨b,r,h3,_⟩:=kd m
    have:l.length=0:=by omega
    rw[<-h2,h3] at this;simp at this)
 ·simp only[tt,seval,ao hs1]
  refine fun _=>aa (fun hs2=>?_) (fun hs2=>?_)
  ·exact fin0 (by
    cases hc:i8 l with
    |none=>rfl
    |some m=>
     obtain⟨h1,h2⟩:=et.1 hc
     have:=eL m 18 (by omega)
     rw[h2] at this;omega)
  ·skip
   refine dLoop.intro (fun f' L p=>∃i n:Nat,f' 5=vi i/\f' 4=vi n/\i<=l.length/\Lib.decFrom 0 (l.take i)=some n/\n<=9223372036854775807/\L=[]/\p=none) (fun f' _ _=>(s.size-aU (f' 5)).toNat) [] none ⟨ak _,al _,?_⟩ ?_
   ·simp only[tt,seval]
    exact⟨0,0,rfl,rfl,by omega,rfl,by omega⟩
   ·rintro g L p ⟨i,n,h5,h4,hi,hd,hn,rfl,rfl⟩
    simp only[tt,seval] at h5 h4
    simp only[tt,seval,h5,h4,Int.ofNat_lt]
    refine fun _=>aa (fun hlt=>?_) (fun hge=>?_)
    ·have hil:i<l.length:=by omega
     have hget:l[i]?=some l[i]:=ay hil
     rw[bV hl hil]
     simp only[tt,seval]
     have dn (h:¬(48<=l[i].toNat/\l[i].toNat<=57)):i8 l=none:=by
      unfold i8
      rw[sC hget (by unfold Lib.digitVal;rw[if_neg h]) 0]
     by_cases hb:(l[i].toNat:Int)<48
     ·simp only[tt,seval,ap hb]
      exact fin0 (dn (by omega))
     ·simp only[tt,seval,ao hb,h5]
      rw[bV hl hil]
      simp only[tt,seval,h5]
      refine aa (fun hb2=>?_) (fun hb2=>?_)
      ·exact fin0 (dn (by omega))
      ·try simp only[tt,seval,h5,h4]
       rw[bV hl hil]
       simp only[tt,seval,h5,h4]
       have hbb:48<=l[i].toNat/\l[i].toNat<=57:=by omega
       obtain⟨d,hd48⟩:∃d:Nat,l[i].toNat=48+d:=⟨l[i].toNat-48,by omega⟩
       have hd9:d<=9:=by omega
       have hdv:Lib.digitVal l[i]=some d:=by unfold Lib.digitVal;rw[if_pos hbb,hd48];congr 1;omega
       have hsn:Lib.decFrom 0 (l.take (i+1))=some (n*10+d):=by rw[List.take_succ_eq_append_getElem hil,gC,hd,hdv]
       rw[hd48,ax (n:=((48+d:Nat):Int)) (by omega) (by omega),ax (n:=((48+d:Nat):Int)-48) (by omega) (by omega),ax (n:=9223372036854775807-(((48+d:Nat):Int)-48)) (by omega) (by omega)]
       have ht:(9223372036854775807-(((48+d:Nat):Int)-48)).tdiv 10=(((9223372036854775807-d) / 10:Nat):Int):=by
        rw[Int.tdiv_eq_ediv_of_nonneg (by omega)];omega
       rw[ht,ax (n:=(((9223372036854775807-d) / 10:Nat):Int)) (by omega) (by omega)]
       refine aa (fun ho=>?_) (fun ho=>?_)
       ·exact fin0 (by
         cases hc:i8 l with
         |none=>rfl
         |some m=>
          obtain⟨h1,h2⟩:=et.1 hc
          have hm:=gM m
          rw[h2] at hm
          have hsp:∀(a b:List UInt8) (acc:Nat),Lib.decFrom acc (a++b)=(Lib.decFrom acc a).bind fun x=>Lib.decFrom x b:=by
           intro a
           induction a with
           |nil=>intro b acc;rfl
           |cons c r ih=>
            intro b acc
            simp only[List.cons_append,Lib.decFrom]
            cases Lib.digitVal c with
            |none=>rfl
            |some d=>exact ih b _
          have:=hsp (l.take (i+1)) (l.drop (i+1)) 0
          rw[List.take_append_drop,hm,hsn] at this
          have:=mb _ _ _ this.symm
          omega)
       ·rw[ax (n:=10*(n:Int)) (by omega) (by omega),ax (n:=10*(n:Int)+(((48+d:Nat):Int)-48)) (by omega) (by omega),ax (n:=(i:Int)+1) (by omega) (by omega)]
        exact⟨[],none,ak _,al _,⟨i+1,n*10+d,by simp,gB (by omega),by omega,hsn,by omega,rfl,rfl⟩,by simp only[aU];omega⟩
    ·have:i=l.length:=by omega
     subst this
     rw[List.take_length] at hd
     refine cZ (pH n (by omega) (by omega)) ?_ ?_<;>simp only[tt,seval,h4]
     refine aa (fun he=>?_) (fun he=>?_)
     ·have he':¬dV n=s:=by simpa only[Bool.not_eq_true',decide_eq_false_iff_not] using he
      exact fin0 (by
       unfold i8
       rw[hd]
       refine if_neg fun hc=>he' (m8 ?_)
       rw[dV,pI,hc.2,hl])
     ·have he':dV n=s:=by simpa only[Bool.not_eq_false',decide_eq_true_eq] using he
      have hc:i8 l=some n:=et.2 ⟨by omega,by rw[<-pI,hl,<-he'];rfl⟩
      exact⟨_,_,by rw[lx,ic,mK,<-hl,hc];rfl,ai rfl⟩
end Go.Proofs.YteffjmaadkkmeaaGreatDoor
set_option maxRecDepth 8000
namespace Go.Proofs.YteffjmaadkkmeaaGreatDoor
open Go Go.Dv
open Go.Vc (D cY d3 cN bk)
def aW (t:Tok):Bool:=if t.kind=1 then (decide (¬l4 t.text=0)&&decide (bL t.text=t.text)) else if t.kind=2 then decide (1<=t.text.size/\t.text.size<=20) else if t.kind=3 then mK t.text else if t.kind=4 then decide (t.text.size<=40) else if t.kind=5 then eU t.text else false
theorem cL (t:Tok) (hs:t.text.size<=1048576):Cl Tryz.prog 181 [.ag (av t.row)] [] fun r _=>r=vb (aW t):=by
 rw[Tok.row]
 refine ae ab false Tryz.func181 rfl (by kernel_rfl) ?_
 simp only[Tryz.f181,tt,seval]
 refine aa (fun h1=>?_) (fun h1=>?_)
 ·skip
  refine dDrawn.intro [] (iK [0,2,5,6,8,10,12,16,18,15,20,22,24]) (by kernel_rfl) ?_
  simp only[tt,seval]
  refine cZ (so t.text hs) ?_ ?_<;>simp only[tt,seval]
  have hk:=pC t.text
  have hgt:decide ((0:Int)<l4 t.text)=decide (¬l4 t.text=0):=by rw[decide_eq_decide];omega
  by_cases hz:l4 t.text=0
  ·simp only[tt,seval,hgt,ao (not_not_intro hz)]
   exact⟨_,_,aE (by rw[aW,if_pos h1,ao (not_not_intro hz)];rfl),ai rfl⟩
  ·simp only[tt,seval,hgt,ap hz]
   refine cZ (vH t.text hs) ?_ ?_<;>simp only[tt,seval]
   exact⟨_,_,aE (by rw[aW,if_pos h1,ap hz];rfl),ai rfl⟩
 ·try simp only[tt,seval]
  refine aa (fun h2=>?_) (fun h2=>?_)
  ·skip
   refine cZ (gb t.text) ?_ ?_<;>simp only[tt,seval]
   exact⟨_,_,aE (by rw[aW,if_neg h1,if_pos h2]),ai rfl⟩
  ·try simp only[tt,seval]
   refine aa (fun h3=>?_) (fun h3=>?_)
   ·skip
    refine cZ (mL t.text hs) ?_ ?_<;>simp only[tt,seval,lx]
    exact⟨_,_,aE (by rw[aW,if_neg h1,if_neg h2,if_pos h3]),ai rfl⟩
   ·try simp only[tt,seval]
    refine aa (fun h4=>?_) (fun h4=>?_)
    ·try simp only[tt,seval]
     refine fun _=>?_
     exact⟨_,_,aE (by rw[aW,if_neg h1,if_neg h2,if_neg h3,if_pos h4];simp only[decide_eq_decide];omega),ai rfl⟩
    ·try simp only[tt,seval]
     refine aa (fun h5=>?_) (fun h5=>?_)
     ·skip
      refine cZ (tY t.text) ?_ ?_<;>simp only[tt,seval]
      exact⟨_,_,aE (by rw[aW,if_neg h1,if_neg h2,if_neg h3,if_neg h4,if_pos h5]),ai rfl⟩
     ·exact⟨_,_,aE (by rw[aW,if_neg h1,if_neg h2,if_neg h3,if_neg h4,if_neg h5]),ai rfl⟩
theorem bM (t:Tok) (hs:t.text.size<=1048576):Cl Tryz.prog 225 [.ag (av t.row)] [] fun r _=>r=vb (aW t):=by
 rw[Tok.row]
 refine ae ab false Tryz.func225 rfl (by kernel_rfl) ?_
 simp only[Tryz.f225,tt,seval]
 refine aa (fun h1=>?_) (fun h1=>?_)
 ·skip
  refine dDrawn.intro [] (iK [0,2,5,6,8,10,12,16,18,15,20,22,24]) (by kernel_rfl) ?_
  simp only[tt,seval]
  refine cZ (mG t.text hs) ?_ ?_<;>simp only[tt,seval]
  have hk:=pC t.text
  have hgt:True:=trivial
  by_cases hz:l4 t.text=0
  ·simp only[tt,seval,ap hz]
   exact⟨_,_,aE (by rw[aW,if_pos h1,ao (not_not_intro hz)];rfl),ai rfl⟩
  ·simp only[tt,seval,ao hz]
   refine cZ (pe t.text hs) ?_ ?_<;>simp only[tt,seval]
   exact⟨_,_,aE (by rw[aW,if_pos h1,ap hz];rfl),ai rfl⟩
 ·try simp only[tt,seval]
  refine aa (fun h2=>?_) (fun h2=>?_)
  ·skip
   refine cZ (er t.text) ?_ ?_<;>simp only[tt,seval]
   exact⟨_,_,aE (by rw[aW,if_neg h1,if_pos h2]),ai rfl⟩
  ·try simp only[tt,seval]
   refine aa (fun h3=>?_) (fun h3=>?_)
   ·skip
    refine cZ (rk t.text hs) ?_ ?_<;>simp only[tt,seval,lx]
    exact⟨_,_,aE (by rw[aW,if_neg h1,if_neg h2,if_pos h3]),ai rfl⟩
   ·try simp only[tt,seval]
    refine aa (fun h4=>?_) (fun h4=>?_)
    ·try simp only[tt,seval]
     refine fun _=>?_
     exact⟨_,_,aE (by rw[aW,if_neg h1,if_neg h2,if_neg h3,if_pos h4];simp only[decide_eq_decide];omega),ai rfl⟩
    ·try simp only[tt,seval]
     refine aa (fun h5=>?_) (fun h5=>?_)
     ·skip
      refine cZ (yf t.text) ?_ ?_<;>simp only[tt,seval]
      exact⟨_,_,aE (by rw[aW,if_neg h1,if_neg h2,if_neg h3,if_neg h4,if_pos h5]),ai rfl⟩
     ·exact⟨_,_,aE (by rw[aW,if_neg h1,if_neg h2,if_neg h3,if_neg h4,if_neg h5]),ai rfl⟩
theorem u6 {s:ByteArray} (h:eU s=true):0<s.size:=by
 simp only[eU,signs,List.any_cons,List.any_nil,Bool.or_false,Bool.or_eq_true,decide_eq_true_eq] at h
 rcases h with h|h|h|h|h|h|h|h|h|h|h|h|h|h|h|h<;>(rw[h];decide)
def cU (t:Tok):ByteArray:=if aW t=false then ⟨#[]⟩ else if t.kind=2 then lK t.text else if t.kind=4 then jl 39 t.text else t.text
def bH (t:Tok):Bool:=decide (t.kind=1)||(decide (t.kind=3)||(decide (t.kind=2)&&eR t.text))
def bQ (t:Tok):Bool:=decide (t.kind=2) && !eR t.text
def zC (a b:Tok):Bool:=
 if ¬a.kind=5 then false else if ¬b.kind=5 then false else
 if a.text=⟨#[45]⟩ then decide (b.text=⟨#[45]⟩) else if a.text=⟨#[47]⟩ then decide (b.text=⟨#[42]⟩) else
 if a.text=⟨#[60]⟩ then (decide (b.text.data.toList.headD 0=61)||decide (b.text.data.toList.headD 0=62)) else if a.text=⟨#[62]⟩ then decide (b.text.data.toList.headD 0=61) else false
def jq (a b:Tok):Bool:=if ((bH a&&bH b)||(bQ a&&bQ b)||(decide (a.kind=4)&&decide (b.kind=4)))=true then true else zC a b
def ly (a b:Tok):Bool:=if (!(aW a&&aW b))=true then false else jq a b
theorem kg (t:Tok) (hs:t.text.size<=1048576):Cl Tryz.prog 245 [.ag (av t.row)] [] fun r _=>r=vs (cU t):=by
 rw[Tok.row]
 refine ae ab false Tryz.func245 rfl (by kernel_rfl) ?_
 simp only[Tryz.f245,tt,seval]
 refine cZ (cL t hs) ?_ ?_<;>simp only[tt,seval,Tok.row]
 refine aa (fun h=>?_) (fun h=>?_)
 ·have h:aW t=false:=by simpa only[Bool.not_eq_true'] using h
  exact⟨_,_,iQ (by rw[cU,if_pos h]),ai rfl⟩
 ·have h:¬aW t=false:=by simpa only[Bool.not_eq_false',Bool.not_eq_false] using h
  refine aa (fun h2=>?_) (fun h2=>?_)
  ·skip
   refine cZ (vM t.text hs) ?_ ?_<;>simp only[tt,seval]
   exact⟨_,_,iQ (by rw[cU,if_neg h,if_pos h2]),ai rfl⟩
  ·try simp only[tt,seval]
   refine aa (fun h4=>?_) (fun h4=>?_)
   ·skip
    refine cZ (tR t.text hs) ?_ ?_<;>simp only[tt,seval]
    exact⟨_,_,iQ (by rw[cU,if_neg h,if_neg h2,if_pos h4]),ai rfl⟩
   ·exact⟨_,_,iQ (by rw[cU,if_neg h,if_neg h2,if_neg h4]),ai rfl⟩
theorem jr (t:Tok) (hs:t.text.size<=1048576):Cl Tryz.prog 253 [.ag (av t.row)] [] fun r _=>r=vs (cU t):=by
 rw[Tok.row]
 refine ae ab false Tryz.func253 rfl (by kernel_rfl) ?_
 simp only[Tryz.f253,tt,seval]
 refine cZ (bM t hs) ?_ ?_<;>simp only[tt,seval,Tok.row]
 refine aa (fun h=>?_) (fun h=>?_)
 ·have h:aW t=false:=by simpa only[Bool.not_eq_true'] using h
  exact⟨_,_,iQ (by rw[cU,if_pos h]),ai rfl⟩
 ·have h:¬aW t=false:=by simpa only[Bool.not_eq_false',Bool.not_eq_false] using h
  refine aa (fun h2=>?_) (fun h2=>?_)
  ·skip
   refine cZ (tS t.text hs) ?_ ?_<;>simp only[tt,seval]
   exact⟨_,_,iQ (by rw[cU,if_neg h,if_pos h2]),ai rfl⟩
  ·try simp only[tt,seval]
   refine aa (fun h4=>?_) (fun h4=>?_)
   ·skip
    refine cZ (mH t.text hs) ?_ ?_<;>simp only[tt,seval]
    exact⟨_,_,iQ (by rw[cU,if_neg h,if_neg h2,if_pos h4]),ai rfl⟩
   ·exact⟨_,_,iQ (by rw[cU,if_neg h,if_neg h2,if_neg h4]),ai rfl⟩
theorem pJ (t:Tok) (hs:t.text.size<=1048576):Cl Tryz.prog 280 [.ag (av t.row)] [] fun r _=>r=vb (bH t):=by
 rw[Tok.row]
 refine ae ab false Tryz.func280 rfl (by kernel_rfl) ?_
 simp only[Tryz.f280,tt,seval]
 by_cases h1:t.kind=1
 ·simp only[tt,seval,h1]
  exact⟨_,_,aE (by rw[bH,ap h1];rfl),ai rfl⟩
 ·simp only[tt,seval,ao h1]
  by_cases h3:t.kind=3
  ·simp only[tt,seval,h3]
   exact⟨_,_,aE (by rw[bH,ap h3];simp),ai rfl⟩
  ·simp only[tt,seval,ao h3]
   by_cases h2:t.kind=2
   ·simp only[tt,seval,ap h2]
    refine cZ (jZ t.text hs) ?_ ?_<;>simp only[tt,seval]
    exact⟨_,_,aE (by rw[bH,ao h1,ao h3,ap h2];rfl),ai rfl⟩
   ·simp only[tt,seval,ao h2]
    exact⟨_,_,aE (by rw[bH,ao h1,ao h3,ao h2];rfl),ai rfl⟩
theorem pK (t:Tok) (hs:t.text.size<=1048576):Cl Tryz.prog 256 [.ag (av t.row)] [] fun r _=>r=vb (bH t):=by
 rw[Tok.row]
 refine ae ab false Tryz.func256 rfl (by kernel_rfl) ?_
 simp only[Tryz.f256,tt,seval]
 by_cases h1:t.kind=1
 ·simp only[tt,seval,h1]
  exact⟨_,_,aE (by rw[bH,ap h1];rfl),ai rfl⟩
 ·simp only[tt,seval,ao h1]
  by_cases h3:t.kind=3
  ·simp only[tt,seval,h3]
   exact⟨_,_,aE (by rw[bH,ap h3];simp),ai rfl⟩
  ·simp only[tt,seval,ao h3]
   by_cases h2:t.kind=2
   ·simp only[tt,seval,ap h2]
    refine cZ (jk t.text hs) ?_ ?_<;>simp only[tt,seval]
    exact⟨_,_,aE (by rw[bH,ao h1,ao h3,ap h2];rfl),ai rfl⟩
   ·simp only[tt,seval,ao h2]
    exact⟨_,_,aE (by rw[bH,ao h1,ao h3,ao h2];rfl),ai rfl⟩
theorem gQ (t:Tok) (hs:t.text.size<=1048576):Cl Tryz.prog 281 [.ag (av t.row)] [] fun r _=>r=vb (bQ t):=by
 rw[Tok.row]
 refine ae ab false Tryz.func281 rfl (by kernel_rfl) ?_
 simp only[Tryz.f281,tt,seval]
 by_cases h2:t.kind=2
 ·simp only[tt,seval,ap h2]
  refine cZ (jZ t.text hs) ?_ ?_<;>simp only[tt,seval]
  exact⟨_,_,aE (by rw[bQ,ap h2];rfl),ai rfl⟩
 ·simp only[tt,seval,ao h2]
  exact⟨_,_,aE (by rw[bQ,ao h2];rfl),ai rfl⟩
theorem ed (t:Tok) (hs:t.text.size<=1048576):Cl Tryz.prog 257 [.ag (av t.row)] [] fun r _=>r=vb (bQ t):=by
 rw[Tok.row]
 refine ae ab false Tryz.func257 rfl (by kernel_rfl) ?_
 simp only[Tryz.f257,tt,seval]
 by_cases h2:t.kind=2
 ·simp only[tt,seval,ap h2]
  refine cZ (jk t.text hs) ?_ ?_<;>simp only[tt,seval]
  exact⟨_,_,aE (by rw[bQ,ap h2];rfl),ai rfl⟩
 ·simp only[tt,seval,ao h2]
  exact⟨_,_,aE (by rw[bQ,ao h2];rfl),ai rfl⟩
set_option maxHeartbeats 2000000 in
theorem vO (a b:Tok) (ha:a.text.size<=1048576) (hb:b.text.size<=1048576):Cl Tryz.prog 244 [.ag (av a.row),.ag (av b.row)] [] fun r _=>r=vb (ly a b):=by
 obtain⟨l,hl⟩:∃l,l=b.text.data.toList:=⟨_,rfl⟩
 have hll:l.length=b.text.size:=by rw[hl];exact aG b.text
 rw[Tok.row,Tok.row]
 refine ae ab false Tryz.func244 rfl (by kernel_rfl) ?_
 simp only[Tryz.f244,tt,seval]
 refine cZ (cL a ha) ?_ ?_<;>simp only[tt,seval,Tok.row]
 cases hoa:aW a with
 |false=>
  simp only[tt,seval]
  exact⟨_,_,aE (by simp only[ly,hoa,Bool.false_and,Bool.not_false,reduceIte]),ai rfl⟩
 |true=>
 simp only[tt,seval]
 refine cZ (cL b hb) ?_ ?_<;>simp only[tt,seval,Tok.row]
 cases hob:aW b with
 |false=>
  simp only[tt,seval]
  exact⟨_,_,aE (by simp only[ly,hoa,hob,Bool.and_false,Bool.not_false,reduceIte]),ai rfl⟩
 |true=>
 simp only[tt,seval]
 have g0:ly a b=jq a b:=by simp only[ly,hoa,hob,Bool.and_self,Bool.not_true,Bool.false_eq_true,reduceIte]
 refine cZ (pJ a ha) ?_ ?_<;>simp only[tt,seval,Tok.row]
 have hw:(bH a&&bH b)=true->jq a b=true:=fun h=>by simp only[jq,h,Bool.true_or,reduceIte]
 have hq:(bQ a&&bQ b)=true->jq a b=true:=fun h=>by simp only[jq,h,Bool.true_or,Bool.or_true,reduceIte]
 have ht:(decide (a.kind=4)&&decide (b.kind=4))=true->jq a b=true:=fun h=>by simp only[jq,h,Bool.or_true,reduceIte]
 have he:(bH a&&bH b)=false->(bQ a&&bQ b)=false->(decide (a.kind=4)&&decide (b.kind=4))=false->jq a b=zC a b:=fun h1 h2 h3=>by simp only[jq,h1,h2,h3,Bool.or_self,Bool.false_eq_true,reduceIte]
 have hpos (h5:b.kind=5):0<l.length:=by
  have:eU b.text=true:=by rw[aW,if_neg (by omega),if_neg (by omega),if_neg (by omega),if_neg (by omega),if_pos h5] at hob;exact hob
  have:=u6 this
  omega
 have heq (hl0:0<l.length) (n:UInt8):decide (b.text.data.toList.headD 0=n)=decide ((l[0].toNat:Int)=n.toNat):=by
  rw[<-hl,decide_eq_decide]
  have:l.headD 0=l[0]:=by cases l with|nil=>exact absurd hl0 (Nat.lt_irrefl _)|cons x r=>rfl
  rw[this,<-UInt8.toNat_inj];omega
 by_cases hww:(bH a&&bH b)=true
 ·have hwa:bH a=true:=by rw[Bool.and_eq_true] at hww;exact hww.1
  have hwb:bH b=true:=by rw[Bool.and_eq_true] at hww;exact hww.2
  simp only[tt,seval,hwa]
  refine cZ (pJ b hb) ?_ ?_<;>simp only[tt,seval,Tok.row]
  simp only[tt,seval,hwb]
  exact⟨_,_,aE (by rw[g0,hw hww]),ai rfl⟩
 have hww':(bH a&&bH b)=false:=by simpa only[Bool.not_eq_true] using hww
 have hcase:bH a=false∨(bH a=true/\bH b=false):=by cases h:bH a<;>cases h':bH b<;>simp_all
 rcases hcase with hwa|⟨hwa,hwb⟩
 case' inl=>simp only[tt,seval,hwa]
 case' inr=>
  simp only[tt,seval,hwa]
  refine cZ (pJ b hb) ?_ ?_<;>simp only[tt,seval,Tok.row]
  simp only[tt,seval,hwb]
 all_goals
  by_cases HTT:(decide (a.kind=4)&&decide (b.kind=4))=true
  ·have hta:a.kind=4:=by rw[Bool.and_eq_true] at HTT;exact of_decide_eq_true HTT.1
   have htb:b.kind=4:=by rw[Bool.and_eq_true] at HTT;exact of_decide_eq_true HTT.2
   simp only[tt,seval,ap hta]
   simp only[tt,seval,htb]
   exact⟨_,_,aE (by rw[g0,ht HTT]),ai rfl⟩
  have HT:(decide (a.kind=4)&&decide (b.kind=4))=false:=by simpa only[Bool.not_eq_true] using HTT
  have hcase:¬a.kind=4∨(a.kind=4 /\ ¬b.kind=4):=by cases h:decide (a.kind=4)<;>cases h':decide (b.kind=4)<;>simp_all
  rcases hcase with hta|⟨hta,htb⟩
  case' inl=>simp only[tt,seval,ao hta]
  case' inr=>
   simp only[tt,seval,ap hta]
   simp only[tt,seval,htb]
  all_goals
   by_cases HQQ:(bQ a&&bQ b)=true
   ·have hqa:bQ a=true:=by rw[Bool.and_eq_true] at HQQ;exact HQQ.1
    have hqb:bQ b=true:=by rw[Bool.and_eq_true] at HQQ;exact HQQ.2
    refine cZ (gQ a ha) ?_ ?_<;>simp only[tt,seval,Tok.row]
    simp only[tt,seval,hqa]
    refine cZ (gQ b hb) ?_ ?_<;>simp only[tt,seval,Tok.row]
    simp only[tt,seval,hqb]
    exact⟨_,_,aE (by rw[g0,hq HQQ]),ai rfl⟩
   have HQ:(bQ a&&bQ b)=false:=by simpa only[Bool.not_eq_true] using HQQ
   have hcase:bQ a=false∨(bQ a=true/\bQ b=false):=by cases h:bQ a<;>cases h':bQ b<;>simp_all
   rcases hcase with hqa|⟨hqa,hqb⟩
   case' inl=>
    refine cZ (gQ a ha) ?_ ?_<;>simp only[tt,seval,Tok.row]
    simp only[tt,seval,hqa]
   case' inr=>
    refine cZ (gQ a ha) ?_ ?_<;>simp only[tt,seval,Tok.row]
    simp only[tt,seval,hqa]
    refine cZ (gQ b hb) ?_ ?_<;>simp only[tt,seval,Tok.row]
    simp only[tt,seval,hqb]
   all_goals
    rw[g0,he hww' HQ HT,zC]
    by_cases h5a:a.kind=5
    ·rw[if_neg (not_not_intro h5a)]
     simp only[tt,seval,ap h5a]
     refine aa (fun h5b=>?_) (fun h5b=>?_)
     ·have h5b:¬b.kind=5:=by simpa only[Bool.not_eq_true',decide_eq_false_iff_not] using h5b
      exact⟨_,_,aE (by rw[if_pos h5b]),ai rfl⟩
     ·have h5b:b.kind=5:=by simpa only[Bool.not_eq_false',decide_eq_true_eq] using h5b
      rw[if_neg (not_not_intro h5b)]
      have hl0:=hpos h5b
      refine aa (fun t1=>?_) (fun t1=>?_)
      ·exact⟨_,_,aE (by rw[if_pos t1]),ai rfl⟩
      ·try simp only[tt,seval]
       refine aa (fun t2=>?_) (fun t2=>?_)
       ·exact⟨_,_,aE (by rw[if_neg t1,if_pos t2]),ai rfl⟩
       ·try simp only[tt,seval]
        refine aa (fun t3=>?_) (fun t3=>?_)
        ·try simp only[tt,seval]
         rw[jY hl hl0,if_neg t1,if_neg t2,if_pos t3,heq hl0 61,heq hl0 62]
         simp only[tt,seval]
         by_cases hx:(l[0].toNat:Int)=61
         ·simp only[tt,seval,ap hx]
          exact⟨_,_,aE rfl,ai rfl⟩
         ·simp only[tt,seval,ao hx]
          rw[jY hl hl0]
          simp only[tt,seval]
          exact⟨_,_,aE rfl,ai rfl⟩
        ·try simp only[tt,seval]
         refine aa (fun t4=>?_) (fun t4=>?_)
         ·try simp only[tt,seval]
          rw[jY hl hl0,if_neg t1,if_neg t2,if_neg t3,if_pos t4,heq hl0 61]
          simp only[tt,seval]
          exact⟨_,_,aE rfl,ai rfl⟩
         ·exact⟨_,_,aE (by rw[if_neg t1,if_neg t2,if_neg t3,if_neg t4]),ai rfl⟩
    ·simp only[tt,seval,ao h5a]
     exact⟨_,_,aE (by rw[if_pos h5a]),ai rfl⟩
set_option maxHeartbeats 2000000 in
theorem u7 (a b:Tok) (ha:a.text.size<=1048576) (hb:b.text.size<=1048576):Cl Tryz.prog 218 [.ag (av a.row),.ag (av b.row)] [] fun r _=>r=vb (ly a b):=by
 obtain⟨l,hl⟩:∃l,l=b.text.data.toList:=⟨_,rfl⟩
 have hll:l.length=b.text.size:=by rw[hl];exact aG b.text
 rw[Tok.row,Tok.row]
 refine ae ab false Tryz.func218 rfl (by kernel_rfl) ?_
 simp only[Tryz.f218,tt,seval]
 refine cZ (bM a ha) ?_ ?_<;>simp only[tt,seval,Tok.row]
 cases hoa:aW a with
 |false=>
  simp only[tt,seval]
  exact⟨_,_,aE (by simp only[ly,hoa,Bool.false_and,Bool.not_false,reduceIte]),ai rfl⟩
 |true=>
 simp only[tt,seval]
 refine cZ (bM b hb) ?_ ?_<;>simp only[tt,seval,Tok.row]
 cases hob:aW b with
 |false=>
  simp only[tt,seval]
  exact⟨_,_,aE (by simp only[ly,hoa,hob,Bool.and_false,Bool.not_false,reduceIte]),ai rfl⟩
 |true=>
 simp only[tt,seval]
 have g0:ly a b=jq a b:=by simp only[ly,hoa,hob,Bool.and_self,Bool.not_true,Bool.false_eq_true,reduceIte]
 refine cZ (pK a ha) ?_ ?_<;>simp only[tt,seval,Tok.row]
 have hw:(bH a&&bH b)=true->jq a b=true:=fun h=>by simp only[jq,h,Bool.true_or,reduceIte]
 have hq:(bQ a&&bQ b)=true->jq a b=true:=fun h=>by simp only[jq,h,Bool.true_or,Bool.or_true,reduceIte]
 have ht:(decide (a.kind=4)&&decide (b.kind=4))=true->jq a b=true:=fun h=>by simp only[jq,h,Bool.or_true,reduceIte]
 have he:(bH a&&bH b)=false->(bQ a&&bQ b)=false->(decide (a.kind=4)&&decide (b.kind=4))=false->jq a b=zC a b:=fun h1 h2 h3=>by simp only[jq,h1,h2,h3,Bool.or_self,Bool.false_eq_true,reduceIte]
 have hpos (h5:b.kind=5):0<l.length:=by
  have:eU b.text=true:=by rw[aW,if_neg (by omega),if_neg (by omega),if_neg (by omega),if_neg (by omega),if_pos h5] at hob;exact hob
  have:=u6 this
  omega
 have heq (hl0:0<l.length) (n:UInt8):decide (b.text.data.toList.headD 0=n)=decide ((l[0].toNat:Int)=n.toNat):=by
  rw[<-hl,decide_eq_decide]
  have:l.headD 0=l[0]:=by cases l with|nil=>exact absurd hl0 (Nat.lt_irrefl _)|cons x r=>rfl
  rw[this,<-UInt8.toNat_inj];omega
 by_cases hww:(bH a&&bH b)=true
 ·have hwa:bH a=true:=by rw[Bool.and_eq_true] at hww;exact hww.1
  have hwb:bH b=true:=by rw[Bool.and_eq_true] at hww;exact hww.2
  simp only[tt,seval,hwa]
  refine cZ (pK b hb) ?_ ?_<;>simp only[tt,seval,Tok.row]
  simp only[tt,seval,hwb]
  exact⟨_,_,aE (by rw[g0,hw hww]),ai rfl⟩
 have hww':(bH a&&bH b)=false:=by simpa only[Bool.not_eq_true] using hww
 have hcase:bH a=false∨(bH a=true/\bH b=false):=by cases h:bH a<;>cases h':bH b<;>simp_all
 rcases hcase with hwa|⟨hwa,hwb⟩
 case' inl=>simp only[tt,seval,hwa]
 case' inr=>
  simp only[tt,seval,hwa]
  refine cZ (pK b hb) ?_ ?_<;>simp only[tt,seval,Tok.row]
  simp only[tt,seval,hwb]
 all_goals
  by_cases HQQ:(bQ a&&bQ b)=true
  ·have hqa:bQ a=true:=by rw[Bool.and_eq_true] at HQQ;exact HQQ.1
   have hqb:bQ b=true:=by rw[Bool.and_eq_true] at HQQ;exact HQQ.2
   refine cZ (ed a ha) ?_ ?_<;>simp only[tt,seval,Tok.row]
   simp only[tt,seval,hqa]
   refine cZ (ed b hb) ?_ ?_<;>simp only[tt,seval,Tok.row]
   simp only[tt,seval,hqb]
   exact⟨_,_,aE (by rw[g0,hq HQQ]),ai rfl⟩
  have HQ:(bQ a&&bQ b)=false:=by simpa only[Bool.not_eq_true] using HQQ
  have hcase:bQ a=false∨(bQ a=true/\bQ b=false):=by cases h:bQ a<;>cases h':bQ b<;>simp_all
  rcases hcase with hqa|⟨hqa,hqb⟩
  case' inl=>
   refine cZ (ed a ha) ?_ ?_<;>simp only[tt,seval,Tok.row]
   simp only[tt,seval,hqa]
  case' inr=>
   refine cZ (ed a ha) ?_ ?_<;>simp only[tt,seval,Tok.row]
   simp only[tt,seval,hqa]
   refine cZ (ed b hb) ?_ ?_<;>simp only[tt,seval,Tok.row]
   simp only[tt,seval,hqb]
  all_goals
   by_cases HTT:(decide (a.kind=4)&&decide (b.kind=4))=true
   ·have hta:a.kind=4:=by rw[Bool.and_eq_true] at HTT;exact of_decide_eq_true HTT.1
    have htb:b.kind=4:=by rw[Bool.and_eq_true] at HTT;exact of_decide_eq_true HTT.2
    simp only[tt,seval,ap hta]
    simp only[tt,seval,htb]
    exact⟨_,_,aE (by rw[g0,ht HTT]),ai rfl⟩
   have HT:(decide (a.kind=4)&&decide (b.kind=4))=false:=by simpa only[Bool.not_eq_true] using HTT
   have hcase:¬a.kind=4∨(a.kind=4 /\ ¬b.kind=4):=by cases h:decide (a.kind=4)<;>cases h':decide (b.kind=4)<;>simp_all
   rcases hcase with hta|⟨hta,htb⟩
   case' inl=>simp only[tt,seval,ao hta]
   case' inr=>
    simp only[tt,seval,ap hta]
    simp only[tt,seval,htb]
   all_goals
    rw[g0,he hww' HQ HT,zC]
    by_cases h5a:a.kind=5
    ·rw[if_neg (not_not_intro h5a)]
     simp only[tt,seval,ap h5a]
     refine aa (fun h5b=>?_) (fun h5b=>?_)
     ·have h5b:¬b.kind=5:=by simpa only[Bool.not_eq_true',decide_eq_false_iff_not] using h5b
      exact⟨_,_,aE (by rw[if_pos h5b]),ai rfl⟩
     ·have h5b:b.kind=5:=by simpa only[Bool.not_eq_false',decide_eq_true_eq] using h5b
      rw[if_neg (not_not_intro h5b)]
      have hl0:=hpos h5b
      refine aa (fun t1=>?_) (fun t1=>?_)
      ·exact⟨_,_,aE (by rw[if_pos t1]),ai rfl⟩
      ·try simp only[tt,seval]
       refine aa (fun t2=>?_) (fun t2=>?_)
       ·exact⟨_,_,aE (by rw[if_neg t1,if_pos t2]),ai rfl⟩
       ·try simp only[tt,seval]
        refine aa (fun t3=>?_) (fun t3=>?_)
        ·try simp only[tt,seval]
         rw[jY hl hl0,if_neg t1,if_neg t2,if_pos t3,heq hl0 61,heq hl0 62]
         simp only[tt,seval]
         by_cases hx:(l[0].toNat:Int)=61
         ·simp only[tt,seval,ap hx]
          exact⟨_,_,aE rfl,ai rfl⟩
         ·simp only[tt,seval,ao hx]
          rw[jY hl hl0]
          simp only[tt,seval]
          exact⟨_,_,aE rfl,ai rfl⟩
        ·try simp only[tt,seval]
         refine aa (fun t4=>?_) (fun t4=>?_)
         ·try simp only[tt,seval]
          rw[jY hl hl0,if_neg t1,if_neg t2,if_neg t3,if_pos t4,heq hl0 61]
          simp only[tt,seval]
          exact⟨_,_,aE rfl,ai rfl⟩
         ·exact⟨_,_,aE (by rw[if_neg t1,if_neg t2,if_neg t3,if_neg t4]),ai rfl⟩
    ·simp only[tt,seval,ao h5a]
     exact⟨_,_,aE (by rw[if_pos h5a]),ai rfl⟩
def jn (l:List Tok) (i:Nat):List UInt8:=if h:i<l.length then (if 0<i/\ly (l[i-1]'(by omega)) l[i]=true then [32] else [])++(cU l[i]).data.toList else []
def ge (l:List Tok) (k:Nat):List UInt8:=(List.range k).flatMap (jn l)
theorem dd (l:List Tok) (k:Nat):ge l (k+1)=ge l k++jn l k:=by
 unfold ge
 rw[List.range_succ,List.flatMap_append];simp
theorem pL (l:List Tok) {k m:Nat} (h:k<=m):(ge l k).length<=(ge l m).length:=by
 induction m with
 |zero=>rw[Nat.le_zero.1 h];exact Nat.le_refl _
 |succ m ih=>
  by_cases e:k=m+1
  ·subst e;exact Nat.le_refl _
  ·rw[dd,aA];exact Nat.le_trans (ih (by omega)) (Nat.le_add_right _ _)
theorem Dg (l:List Tok) {i:Nat} (h:i<l.length):jn l i=(if 0<i/\ly (l[i-1]'(by omega)) l[i]=true then [32] else [])++(cU l[i]).data.toList:=dif_pos h
def dD (l:List Tok):ByteArray:=if l.all aW=true then (if 2000<(ge l l.length).length then ⟨#[]⟩ else ⟨(ge l l.length).toArray⟩) else ⟨#[]⟩
theorem pM {l:List Tok} {i:Nat} (h:i<l.length) (hb:aW l[i]=false):dD l=⟨#[]⟩:=by
 unfold dD
 refine if_neg fun ha=>?_
 have:=List.all_eq_true.1 ha _ (aI h)
 rw[hb] at this;cases this
theorem zD {l:List Tok} (h:∀j (hj:j<l.length),aW l[j]=true):l.all aW=true:=List.all_eq_true.2 fun x hx=>by
 obtain⟨j,hj,rfl⟩:=List.mem_iff_getElem.1 hx
 exact h j hj
theorem yg:([.lit (.int .u8 32)]:List D)=aO [32]:=rfl
theorem zE (l:List Tok) (hT:∀t∈l,t.text.size<=1048576) (hb:(ge l l.length).length<=50000000):Cl Tryz.prog 215 [.c (.sl l.length (l.flatMap Tok.row) none),vb false] [] fun r _=>r=vs (dD l):=by
 refine ae ab false Tryz.func215 rfl (by kernel_rfl) ?_
 simp only[Tryz.f215,tt,seval]
 refine dLoop.gh [.ren 7 46] ⟨by decide,by decide,?_⟩
 refine dLoop0.intro (fun f L p=>∃(i:Nat) (bs:List UInt8),f 6=vi i/\f 5 = .c (.s 46 bs.length)/\i<=l.length/\bs=ge l i/\(∀j (hj:j<l.length),j<i->aW l[j]=true)/\L=[(46,.arr 5 bs.length (aO bs) none)]/\p=none) (fun f _ _=>(l.length-aU (f 6)).toNat) [(46,.arr 5 0 (aO []) none)] none ⟨ac rfl (ak _),al _,?_⟩ ?_
 ·simp only[tt,seval]
  exact⟨0,[],rfl,rfl,by omega,rfl,fun j _ h=>absurd h (Nat.not_lt_zero _),rfl⟩
 ·rintro g L p ⟨i,bs,h6,h5,hi,hbs,hok,rfl,rfl⟩
  simp only[tt,seval] at h6 h5
  simp only[tt,seval,h6,h5,Int.ofNat_lt]
  refine fun _=>aa (fun hlt=>?_) (fun hge=>?_)
  ·have hsz:bs.length+(jn l i).length<=50000000:=by
    have:=pL l (show i+1<=l.length by omega)
    rw[dd,aA] at this
    rw[hbs];omega
   have hjn:=Dg l hlt
   have htx:=hT _ (aI hlt)
   refine⟨by omega,by omega,_,aF Tok.row_len (ay hlt),Tok.ne _ _,?_⟩
   simp only[seval,Tok.tk]
   refine cZ (cL l[i] htx) ?_ ?_<;>simp only[tt,seval,Tok.row]
   refine aa (fun hbad=>?_) (fun hgood=>?_)
   ·exact⟨_,_,iQ (pM hlt (by simpa only[Bool.not_eq_true'] using hbad)).symm,ai rfl⟩
   ·have hgood:aW l[i]=true:=by simpa only[Bool.not_eq_false'] using hgood
    have hok':∀j (hj:j<l.length),j<i+1->aW l[j]=true:=fun j hj hji=>by
     by_cases e:j=i
     ·subst e;exact hgood
     ·exact hok j hj (by omega)
    refine dDrawn.intro [] (iK [0,2,4,6,8,10,12,14,16,18,20,22,24,26,29,30,32]) (by kernel_rfl) ?_
    simp only[tt,seval]
    simp only[tt,seval,h6]
    have nogap (hng:¬(0<i/\ly (l[i-1]'(by omega)) l[i]=true)):jn l i=(cU l[i]).data.toList:=by rw[hjn,if_neg hng];rfl
    by_cases hi0:(0:Int)<i
    ·have hlt1:i-1<l.length:=by omega
     simp only[tt,seval,ap hi0,h6]
     rw[ax (n:=(i:Int)-1) (by omega) (by omega),show (i:Int)-1=((i-1:Nat):Int) by omega]
     refine⟨by omega,by omega,_,aF Tok.row_len (ay hlt1),Tok.ne _ _,?_⟩
     simp only[tt,seval,Tok.tk]
     refine⟨by omega,by omega,_,aF Tok.row_len (ay hlt),Tok.ne _ _,?_⟩
     simp only[seval,Tok.tk]
     refine cZ (vO (l[i-1]'hlt1) l[i] (hT _ (aI hlt1)) htx) ?_ ?_<;>simp only[tt,seval,h6,h5,Tok.row]
     cases hgp:ly (l[i-1]'hlt1) l[i] with
     |true=>
      have hjn':jn l i=[32]++(cU l[i]).data.toList:=by rw[hjn,if_pos ⟨by omega,hgp⟩]
      have hsz':bs.length+1+(cU l[i]).size<=50000000:=by rw[hjn',aA,aG] at hsz;simp only[List.length_singleton] at hsz;omega
      simp only[tt,seval]
      refine⟨by kernel_rfl,⟨by simp only[maxLen];omega,by omega⟩,?_⟩
      rw[yg]
      refine⟨by omega,by omega,_,aF Tok.row_len (ay hlt),Tok.ne _ _,?_⟩
      simp only[seval,Tok.tk]
      refine cZ (kg l[i] htx) ?_ ?_<;>simp only[tt,seval,h6,Tok.row]
      refine⟨by kernel_rfl,by rw[fH,aG,Nat.mul_one],⟨by simp only[maxLen];omega,by omega⟩,?_⟩
      have e:((bs++[32])++(cU l[i]).data.toList).length=bs.length+1+(cU l[i]).size:=by rw[aA,aG];simp
      rw[gL,gL,<-e,ax (n:=(i:Int)+1) (by omega) (by omega)]
      exact⟨_,none,ac rfl (ak _),al _,⟨i+1,_,rfl,rfl,by omega,by rw[dd,hjn',hbs,aJ],hok',rfl,rfl⟩,by simp only[aU];omega⟩
     |false=>
      simp only[tt,seval]
      have hjn':=nogap (by rw[hgp];simp)
      have hsz':bs.length+(cU l[i]).size<=50000000:=by rw[hjn',aG] at hsz;omega
      refine⟨by omega,by omega,_,aF Tok.row_len (ay hlt),Tok.ne _ _,?_⟩
      simp only[seval,Tok.tk]
      refine cZ (kg l[i] htx) ?_ ?_<;>simp only[tt,seval,h6,Tok.row]
      refine⟨by kernel_rfl,by rw[fH,aG,Nat.mul_one],⟨by simp only[maxLen];omega,by omega⟩,?_⟩
      have e:(bs++(cU l[i]).data.toList).length=bs.length+(cU l[i]).size:=by rw[aA,aG]
      rw[gL,<-e,ax (n:=(i:Int)+1) (by omega) (by omega)]
      exact⟨_,none,ac rfl (ak _),al _,⟨i+1,_,rfl,rfl,by omega,by rw[dd,hjn',hbs],hok',rfl,rfl⟩,by simp only[aU];omega⟩
    ·simp only[tt,seval,ao hi0,h6,h5]
     have hjn':=nogap (by omega)
     have hsz':bs.length+(cU l[i]).size<=50000000:=by rw[hjn',aG] at hsz;omega
     refine⟨by omega,by omega,_,aF Tok.row_len (ay hlt),Tok.ne _ _,?_⟩
     simp only[seval,Tok.tk]
     refine cZ (kg l[i] htx) ?_ ?_<;>simp only[tt,seval,h6,Tok.row]
     refine⟨by kernel_rfl,by rw[fH,aG,Nat.mul_one],⟨by simp only[maxLen];omega,by omega⟩,?_⟩
     have e:(bs++(cU l[i]).data.toList).length=bs.length+(cU l[i]).size:=by rw[aA,aG]
     rw[gL,<-e,ax (n:=(i:Int)+1) (by omega) (by omega)]
     exact⟨_,none,ac rfl (ak _),al _,⟨i+1,_,rfl,rfl,by omega,by rw[dd,hjn',hbs],hok',rfl,rfl⟩,by simp only[aU];omega⟩
  ·have hie:i=l.length:=by omega
   subst hie
   have hall:=zD fun j hj=>hok j hj hj
   refine fun _=>aa (fun h2=>?_) (fun h2=>?_)
   ·exact⟨_,_,iQ (by rw[dD,if_pos hall,if_pos (by rw[<-hbs];omega)]),ai rfl⟩
   ·try simp only[tt,seval]
    refine⟨by kernel_rfl,by simp only[maxLen];omega,bs,rfl,rfl,?_⟩
    simp only[tt,seval]
    exact⟨_,_,iQ (by rw[dD,if_pos hall,if_neg (by rw[<-hbs];omega),hbs]),ai rfl⟩
theorem zF (l:List Tok) (hT:∀t∈l,t.text.size<=1048576) (hb:(ge l l.length).length<=50000000):Cl Tryz.prog 147 [.c (.sl l.length (l.flatMap Tok.row) none)] [] fun r _=>r=vs (dD l):=by
 refine ae ab false Tryz.func147 rfl (by kernel_rfl) ?_
 simp only[Tryz.f147,tt,seval]
 refine cZ (zE l hT hb) ?_ ?_<;>simp only[tt,seval]
 exact⟨_,_,rfl,ai rfl⟩
theorem sD (a:List UInt8) (s:ByteArray):a.length+s.size=(a++s.data.toList).length:=by rw[aA,aG]
theorem Er (n:Nat) (ds:List D):Cl Tryz.prog 254 [.c (.p 9000 0)] [[.self,.ow 5 n ds none]] fun r os=>r=vi n/\os=[[.self,.ow 5 n ds none]]:=by
 refine ae ab false Tryz.func254 rfl (by kernel_rfl) ?_
 simp only[Tryz.f254,tt,seval]
 refine fun _=>⟨vi n,[[.self,.ow 5 n ds none]],⟨rfl,rfl⟩,am ?_⟩
 simp only[tt,seval]
theorem zG (l:List Tok) (hT:∀t∈l,t.text.size<=1048576) (hb:(ge l l.length).length<=50000000):Cl Tryz.prog 217 [.c (.sl l.length (l.flatMap Tok.row) none),.c (.fn 218 [] [])] [] fun r _=>r=vs (dD l):=by
 refine ae ab false Tryz.func217 rfl (by kernel_rfl) ?_
 simp only[Tryz.f217,tt,seval]
 refine fun _=>?_
 refine dLoop.gh [.virtC 5 1 10010034 5] ⟨by decide,?_⟩
 simp only[tt,seval]
 refine dLoop0.intro (fun f L p=>∃(i:Nat) (bs:List UInt8) (F:Fp),f 11=vi i/\i<=l.length/\bs=ge l i/\(∀j (hj:j<l.length),j<i->aW l[j]=true)/\L=[(5,.str [.self,.s 10010034 bs.length]),(10010034,.arr 5 bs.length (aO bs) F)]/\p=none) (fun f _ _=>(l.length-aU (f 11)).toNat) [(5,.str [.self,.s 10010034 0]),(10010034,.arr 5 0 (aO []) (some []))] none ⟨ac rfl (ac rfl (ak _)),al _,?_⟩ ?_
 ·simp only[tt,seval]
  exact⟨0,[],some [],rfl,by omega,rfl,fun j _ h=>absurd h (Nat.not_lt_zero _),rfl⟩
 ·rintro g L p ⟨i,bs,F,h11,hi,hbs,hok,rfl,rfl⟩
  simp only[tt,seval] at h11
  simp only[tt,seval,h11,Int.ofNat_lt]
  refine aa (fun hlt=>?_) (fun hge=>?_)
  ·have hsz:bs.length+(jn l i).length<=50000000:=by
    have:=pL l (show i+1<=l.length by omega)
    rw[dd,aA] at this
    rw[hbs];omega
   have hjn:=Dg l hlt
   have htx:=hT _ (aI hlt)
   refine⟨by omega,by omega,_,aF Tok.row_len (ay hlt),Tok.ne _ _,?_⟩
   simp only[tt,seval,Tok.row]
   refine cZ (bM l[i] htx) ?_ ?_<;>simp only[tt,seval,Tok.row]
   refine aa (fun hbad=>?_) (fun hgood=>?_)
   ·exact⟨_,_,iQ (pM hlt (by simpa only[Bool.not_eq_true'] using hbad)).symm,ai rfl⟩
   ·have hgood:aW l[i]=true:=by simpa only[Bool.not_eq_false'] using hgood
    have hok':∀j (hj:j<l.length),j<i+1->aW l[j]=true:=fun j hj hji=>by
     by_cases e:j=i
     ·subst e;exact hgood
     ·exact hok j hj (by omega)
    refine dDrawn.intro [] (iK [0,2,4,6,8,10,12,14,16,18,21,22]) (by kernel_rfl) ?_
    simp only[tt,seval]
    have nogap (hng:¬(0<i/\ly (l[i-1]'(by omega)) l[i]=true)):jn l i=(cU l[i]).data.toList:=by rw[hjn,if_neg hng];rfl
    by_cases hi0:(0:Int)<i
    ·have hlt1:i-1<l.length:=by omega
     simp only[tt,seval,ap hi0]
     rw[ax (n:=(i:Int)-1) (by omega) (by omega),show (i:Int)-1=((i-1:Nat):Int) by omega]
     refine⟨by omega,by omega,_,aF Tok.row_len (ay hlt1),Tok.ne _ _,?_⟩
     simp only[tt,seval,Tok.tk]
     refine cZ (u7 (l[i-1]'hlt1) l[i] (hT _ (aI hlt1)) htx) ?_ ?_<;>simp only[tt,seval,Tok.row]
     cases hgp:ly (l[i-1]'hlt1) l[i] with
     |true=>
      have hjn':jn l i=[32]++(cU l[i]).data.toList:=by rw[hjn,if_pos ⟨by omega,hgp⟩]
      have hsz':bs.length+1+(cU l[i]).size<=50000000:=by rw[hjn',aA,aG] at hsz;simp only[List.length_singleton] at hsz;omega
      simp only[tt,seval]
      refine cS (fW bs ⟨#[32]⟩ (by show bs.length+1<=_;omega)) ?_ ?_<;>simp only[tt,seval]
      refine cZ (jr l[i] htx) ?_ ?_<;>simp only[tt,seval,Tok.row]
      have e1:bs.length+(⟨#[32]⟩:ByteArray).size=(bs++(⟨#[32]⟩:ByteArray).data.toList).length:=by rw[aA];rfl
      rw[e1]
      refine cS (fW (bs++(⟨#[32]⟩:ByteArray).data.toList) (cU l[i]) (by rw[<-e1];show bs.length+1+_<=_;omega)) ?_ ?_<;>simp only[tt,seval,h11]
      rw[sD (bs++[32]) (cU l[i]),ax (n:=(i:Int)+1) (by omega) (by omega)]
      exact⟨[(5,.str [.self,.s 10010034 ((bs++[32])++(cU l[i]).data.toList).length]),(10010034,.arr 5 ((bs++[32])++(cU l[i]).data.toList).length (aO ((bs++[32])++(cU l[i]).data.toList)) none)],none,ac rfl (ac rfl (ak _)),al _,⟨i+1,_,none,rfl,by omega,by rw[dd,hjn',hbs,aJ],hok',rfl,rfl⟩,by simp only[aU];omega⟩
     |false=>
      have hjn':=nogap (by rw[hgp];simp)
      have hsz':bs.length+(cU l[i]).size<=50000000:=by rw[hjn',aG] at hsz;omega
      simp only[tt,seval]
      refine cZ (jr l[i] htx) ?_ ?_<;>simp only[tt,seval,Tok.row]
      refine cS (fW bs (cU l[i]) (by omega)) ?_ ?_<;>simp only[tt,seval,h11]
      rw[sD bs (cU l[i]),ax (n:=(i:Int)+1) (by omega) (by omega)]
      exact⟨[(5,.str [.self,.s 10010034 (bs++(cU l[i]).data.toList).length]),(10010034,.arr 5 (bs++(cU l[i]).data.toList).length (aO (bs++(cU l[i]).data.toList)) none)],none,ac rfl (ac rfl (ak _)),al _,⟨i+1,_,none,rfl,by omega,by rw[dd,hjn',hbs],hok',rfl,rfl⟩,by simp only[aU];omega⟩
    ·have hjn':=nogap (by omega)
     have hsz':bs.length+(cU l[i]).size<=50000000:=by rw[hjn',aG] at hsz;omega
     simp only[tt,seval,ao hi0]
     refine cZ (jr l[i] htx) ?_ ?_<;>simp only[tt,seval,Tok.row]
     refine cS (fW bs (cU l[i]) (by omega)) ?_ ?_<;>simp only[tt,seval,h11]
     rw[sD bs (cU l[i]),ax (n:=(i:Int)+1) (by omega) (by omega)]
     exact⟨[(5,.str [.self,.s 10010034 (bs++(cU l[i]).data.toList).length]),(10010034,.arr 5 (bs++(cU l[i]).data.toList).length (aO (bs++(cU l[i]).data.toList)) none)],none,ac rfl (ac rfl (ak _)),al _,⟨i+1,_,none,rfl,by omega,by rw[dd,hjn',hbs],hok',rfl,rfl⟩,by simp only[aU];omega⟩
  ·have hie:i=l.length:=by omega
   subst hie
   have hall:=zD fun j hj=>hok j hj hj
   have hbl:bs.length<=50000000:=by rw[hbs];exact hb
   refine cS (Er bs.length (aO bs)) ?_ ?_<;>simp only[tt,seval]
   refine aa (fun h2=>?_) (fun h2=>?_)
   ·exact⟨_,_,iQ (by rw[dD,if_pos hall,if_pos (by rw[<-hbs];omega)]),ai rfl⟩
   ·try simp only[tt,seval,h11]
    refine cS (zA bs (by omega)) ?_ ?_<;>simp only[tt,seval]
    exact⟨_,_,iQ (by rw[dD,if_pos hall,if_neg (by rw[<-hbs];omega),hbs]),ai rfl⟩
theorem yh (l:List Tok) (hT:∀t∈l,t.text.size<=1048576) (hb:(ge l l.length).length<=50000000):Cl Tryz.prog 149 [.c (.sl l.length (l.flatMap Tok.row) none)] [] fun r _=>r=vs (dD l):=by
 refine ae ab false Tryz.func149 rfl (by kernel_rfl) ?_
 simp only[Tryz.f149,tt,seval]
 refine cZ (zG l hT hb) ?_ ?_<;>simp only[tt,seval]
 exact⟨_,_,rfl,ai rfl⟩
def Expr.kind:Expr->Int | .mk k _ _ _ _ _ _ _=>k
def Expr.op:Expr->Int | .mk _ o _ _ _ _ _ _=>o
def Expr.kids:Expr->List Expr | .mk _ _ _ _ _ _ k _=>k
def Expr.sub:Expr->List Query | .mk _ _ _ _ _ _ _ s=>s
def bl (op:Int):Int:=if op=1 then 1 else if op=2 then 2 else if 3<=op/\op<=8 then 4 else if op=9 then 5 else if op=10∨op=11 then 6 else if 12<=op/\op<=14 then 7 else 0
def lv (k op:Int):Int:=if k=4 then bl op else if k=3 then (if op=15 then 3 else if op=16 then 8 else 0) else if 5<=k/\k<=8 then 4 else if k=1∨k=2∨k=9 then 9 else 0
def sE (e:Expr):Int:=lv e.kind e.op
theorem nQ (k op:Int):0<=lv k op/\lv k op<=9:=by unfold lv bl;(repeat' split)<;>omega
def nd (kind op:Int) (k:Nat):Int:=if lv kind op=0∨lv kind op=9 then 0 else if kind=4 then (if lv kind op=4 then 5 else if k=0 then lv kind op else lv kind op+1) else if kind=3 then lv kind op else if kind=7/\0<k then 1 else 5
def mM (kind op:Int) (kids:List Expr) (k:Nat):Bool:=decide (sE (kids.getD k (.mk 0 0 false ⟨0,0,⟨#[]⟩⟩ ⟨#[]⟩ ⟨#[]⟩ [] []))<nd kind op k)
theorem vP (op:Int):Cl Tryz.prog 336 [vi op] [] fun r _=>r=vi (bl op):=by
 refine ae ab false Tryz.func336 rfl (by kernel_rfl) ?_
 simp only[Tryz.f336,tt,seval]
 all_goals repeat' first|(refine aa (fun h=>?_) (fun h=>?_)<;>try simp only[tt,seval])|(intro _;try simp only[tt,seval])
 all_goals first|contradiction|exact⟨_,_,gB (by subst_vars;rfl),ai rfl⟩|exact⟨_,_,gB (by unfold bl;(repeat' split)<;>omega),ai rfl⟩
theorem mc (e:Expr):Cl Tryz.prog 324 [.ag (av e.row)] [] fun r _=>r=vi (sE e):=by
 obtain⟨kind,op,not,val,qual,name,kids,sub⟩:=e
 rw[Expr.row_mk,sE,Expr.kind,Expr.op]
 refine ae ab false Tryz.func324 rfl (by kernel_rfl) ?_
 simp only[Tryz.f324,tt,seval]
 refine aa (fun h4=>?_) (fun h4=>?_)
 ·skip
  refine cZ (vP op) ?_ ?_<;>simp only[tt,seval]
  exact⟨_,_,gB (by rw[lv,if_pos h4]),ai rfl⟩
 all_goals repeat' first|(refine aa (fun h=>?_) (fun h=>?_)<;>try simp only[tt,seval])|(intro _;try simp only[tt,seval])
 all_goals exact⟨_,_,gB (by unfold lv;(repeat' split)<;>omega),ai rfl⟩
def F6:List Int:=[0,1,2,4,4,4,4,4,4,5,6,6,7,7,7]
theorem C9:([.lit (.int .i64 0),.lit (.int .i64 1),.lit (.int .i64 2),.lit (.int .i64 4),.lit (.int .i64 4),.lit (.int .i64 4),.lit (.int .i64 4),.lit (.int .i64 4),.lit (.int .i64 4),.lit (.int .i64 5),.lit (.int .i64 6),.lit (.int .i64 6),.lit (.int .i64 7),.lit (.int .i64 7),.lit (.int .i64 7)]:List D)=F6.flatMap irow:=rfl
theorem zH (n:Int):(irow n).length=1:=rfl
theorem Ca:∀n:Fin 15,1<=n.1->F6[n.1]'n.2=bl n.1:=by decide
theorem l6 (e:Expr):Cl Tryz.prog 156 [.ag (av e.row)] [] fun r _=>r=vi (sE e):=by
 obtain⟨kind,op,not,val,qual,name,kids,sub⟩:=e
 rw[Expr.row_mk,sE,Expr.kind,Expr.op]
 refine ae ab false Tryz.func156 rfl (by kernel_rfl) ?_
 simp only[Tryz.f156,tt,seval]
 all_goals repeat' first|(refine aa (fun h=>?_) (fun h=>?_)<;>try simp only[tt,seval])|(intro _;try simp only[tt,seval])
 all_goals first|contradiction|exact⟨_,_,gB (by unfold lv;(repeat' split)<;>omega),ai rfl⟩|skip
 have h4:kind=4:=by assumption
 refine cZ (cF op 1 14) ?_ ?_<;>simp only[tt,seval]
 refine aa (fun hc=>?_) (fun hc=>?_)
 ·have hc:1<=op/\op<=14:=by simpa only[decide_eq_true_eq] using hc
  have hlt:op.toNat<F6.length:=by show _<15;omega
  refine⟨by omega,by omega,?_⟩
  rw[C9,aF zH (ay hlt)]
  simp only[tt,seval,irow]
  exact⟨_,_,gB (by rw[lv,if_pos h4];exact (Ca ⟨op.toNat,hlt⟩ (by show 1<=op.toNat;omega)).trans (congrArg bl (Int.toNat_of_nonneg (show 0<=op by omega)))),ai rfl⟩
 ·exact⟨_,_,gB (by rw[lv,if_pos h4];unfold bl;have:¬(1<=op/\op<=14):=(by simpa only[decide_eq_false_iff_not,decide_eq_true_eq] using hc);(repeat' split)<;>omega),ai rfl⟩
theorem Cb (kind op:Int) (not:Bool) (val:Val) (qual name:ByteArray) (kids:List Expr) (sub:List Query) (k:Nat) (hk:k<kids.length):Cl Tryz.prog 331 [.ag (av (Expr.mk kind op not val qual name kids sub).row),vi k] [] fun r _=>r=vi (nd kind op k):=by
 rw[Expr.row_mk]
 refine ae ab false Tryz.func331 rfl (by kernel_rfl) ?_
 simp only[Tryz.f331,tt,seval]
 refine cZ (l6 (Expr.mk kind op not val qual name kids sub)) ?_ ?_<;>simp only[tt,seval,Expr.row_mk,sE,Expr.kind,Expr.op]
 have hb:=nQ kind op
 refine fun hlen=>?_
 rw[ax (n:=(kids.length:Int)-1) (by omega) (by omega)]
 refine cZ (cF k 0 (kids.length-1)) ?_ ?_<;>simp only[tt,seval]
 simp only[tt,seval,ap (show (0:Int)<=k/\(k:Int)<=(kids.length:Int)-1 by omega)]
 by_cases l0:lv kind op=0
 ·simp only[tt,seval,ap l0]
  exact⟨_,_,gB (by rw[nd,if_pos (Or.inl l0)]),ai rfl⟩
 simp only[tt,seval,ao l0]
 refine aa (fun l9=>?_) (fun l9=>?_)
 ·exact⟨_,_,gB (by rw[nd,if_pos (Or.inr l9)]),ai rfl⟩
 have e:nd kind op k=if kind=4 then (if lv kind op=4 then 5 else if k=0 then lv kind op else lv kind op+1) else if kind=3 then lv kind op else if kind=7/\0<k then 1 else 5:=by rw[nd,if_neg (by omega)]
 rw[e,ax (n:=lv kind op+1) (by omega) (by omega)]
 all_goals repeat' first|(refine aa (fun h=>?_) (fun h=>?_)<;>try simp only[tt,seval])|(intro _;try simp only[tt,seval])
 all_goals first|contradiction|exact⟨_,_,gB (by (repeat' split)<;>omega),ai rfl⟩
theorem zI (kind op:Int) (not:Bool) (val:Val) (qual name:ByteArray) (kids:List Expr) (sub:List Query) (k:Nat) (hk:k<kids.length):Cl Tryz.prog 335 [.ag (av (Expr.mk kind op not val qual name kids sub).row),vi k] [] fun r _=>r=vi (nd kind op k):=by
 rw[Expr.row_mk]
 refine ae ab false Tryz.func335 rfl (by kernel_rfl) ?_
 simp only[Tryz.f335,tt,seval]
 refine cZ (mc (Expr.mk kind op not val qual name kids sub)) ?_ ?_<;>simp only[tt,seval,Expr.row_mk,sE,Expr.kind,Expr.op]
 have hb:=nQ kind op
 simp only[tt,seval,ao (show ¬(k:Int)<0 by omega)]
 refine fun hlen=>?_
 simp only[tt,seval,ao (show ¬(kids.length:Int)<=k by omega)]
 by_cases l0:lv kind op=0
 ·simp only[tt,seval,ap l0]
  exact⟨_,_,gB (by rw[nd,if_pos (Or.inl l0)]),ai rfl⟩
 simp only[tt,seval,ao l0]
 refine aa (fun l9=>?_) (fun l9=>?_)
 ·exact⟨_,_,gB (by rw[nd,if_pos (Or.inr l9)]),ai rfl⟩
 have e:nd kind op k=if kind=4 then (if lv kind op=4 then 5 else if k=0 then lv kind op else lv kind op+1) else if kind=3 then lv kind op else if kind=7/\0<k then 1 else 5:=by rw[nd,if_neg (by omega)]
 rw[e]
 all_goals repeat' first|(refine aa (fun h=>?_) (fun h=>?_)<;>try simp only[tt,seval])|(intro _;try simp only[tt,seval])
 all_goals try rw[ax (n:=lv kind op+(if (1:Int)<k then 1 else (k:Int))) (by split<;>omega) (by split<;>omega)]
 all_goals first|contradiction|exact⟨_,_,gB (by (repeat' split)<;>omega),ai rfl⟩
theorem yi (kind op:Int) (not:Bool) (val:Val) (qual name:ByteArray) (kids:List Expr) (sub:List Query) (k:Nat) (hk:k<kids.length):Cl Tryz.prog 318 [.ag (av (Expr.mk kind op not val qual name kids sub).row),vi k] [] fun r _=>r=vb (mM kind op kids k):=by
 rw[Expr.row_mk]
 refine ae ab false Tryz.func318 rfl (by kernel_rfl) ?_
 simp only[Tryz.f318,tt,seval]
 refine dDrawn.intro [] (iK [0,2,4,6,8,11,12,14,16,18,20,22,26,28,25,31,32,34,36]) (by kernel_rfl) ?_
 simp only[tt,seval]
 refine fun hlen=>?_
 rw[ax (n:=(kids.length:Int)-1) (by omega) (by omega)]
 refine cZ (cF k 0 (kids.length-1)) ?_ ?_<;>simp only[tt,seval]
 simp only[tt,seval,ap (show (0:Int)<=k/\(k:Int)<=(kids.length:Int)-1 by omega)]
 refine⟨by omega,by omega,_,aF Expr.row_len (ay hk),Expr.ne _ _,?_⟩
 simp only[seval,Expr.tk,Expr.row_len]
 refine cZ (l6 kids[k]) ?_ ?_<;>simp only[tt,seval]
 refine cZ (Cb kind op not val qual name kids sub k hk) ?_ ?_<;>simp only[tt,seval,Expr.row_mk]
 exact⟨_,_,aE (by rw[mM,List.getD_eq_getElem?_getD,ay hk];rfl),ai rfl⟩
theorem vQ (kind op:Int) (not:Bool) (val:Val) (qual name:ByteArray) (kids:List Expr) (sub:List Query) (k:Nat) (hk:k<kids.length):Cl Tryz.prog 323 [.ag (av (Expr.mk kind op not val qual name kids sub).row),vi k] [] fun r _=>r=vb (mM kind op kids k):=by
 rw[Expr.row_mk]
 refine ae ab false Tryz.func323 rfl (by kernel_rfl) ?_
 simp only[Tryz.f323,tt,seval]
 refine dDrawn.intro [] (iK [0,2,4,6,8,10,12,14,16,18,20,22,24,26,28,32,34,31,37,38,40,42]) (by kernel_rfl) ?_
 simp only[tt,seval]
 simp only[tt,seval,ap (show (0:Int)<=k by omega)]
 refine fun hlen=>?_
 simp only[tt,seval,ap (show (k:Int)<kids.length by omega)]
 refine⟨by omega,by omega,_,aF Expr.row_len (ay hk),Expr.ne _ _,?_⟩
 simp only[seval,Expr.tk,Expr.row_len]
 refine cZ (mc kids[k]) ?_ ?_<;>simp only[tt,seval]
 refine cZ (zI kind op not val qual name kids sub k hk) ?_ ?_<;>simp only[tt,seval,Expr.row_mk]
 exact⟨_,_,aE (by rw[mM,List.getD_eq_getElem?_getD,ay hk];rfl),ai rfl⟩
mutual
inductive ERow where
 |mk (l:List Expr)
end
mutual
def ERow.row:ERow->List D
 |.mk l=>.sl l.length (l.flatMap Expr.row)::[]
end
theorem ERow.row_mk (l:List Expr):(ERow.mk l).row = .sl l.length (l.flatMap Expr.row)::[]:=by rw[ERow.row]
theorem ERow.row_len (x:ERow):x.row.length=1:=by cases x;simp [ERow.row]
theorem ERow.ne (x:ERow) (r:List D):x.row++r≠[]:=fun h=>by have:=congrArg List.length h;simp [ERow.row_len] at this
mutual
def f7:ERow->Nat
 |.mk l=>cT l
end
theorem rl (l:List Expr):f7 (.mk l)=cT l:=by rw[f7]
def gD (l:List ERow):Nat:=l.length+(l.map f7).sum
theorem ee (l:List ERow):gD l=l.length+(l.map f7).sum:=rfl
def fX (l:List ByteArray):Nat:=l.length+(l.map ByteArray.size).sum
mutual
inductive Stmt where
 |mk (kind:Int) (query:Query) (table:ByteArray) (rows:List ERow) (cols:List ByteArray) (sets:List Expr) (where_:List Expr)
end
mutual
def Stmt.row:Stmt->List D
 |.mk kind query table rows cols sets where_=>int kind::(query.row++str table :: .sl rows.length (rows.flatMap ERow.row) :: .sl cols.length (cols.flatMap srow) :: .sl sets.length (sets.flatMap Expr.row) :: .sl where_.length (where_.flatMap Expr.row)::[])
end
theorem Stmt.row_mk (kind:Int) (query:Query) (table:ByteArray) (rows:List ERow) (cols:List ByteArray) (sets:List Expr) (where_:List Expr):(Stmt.mk kind query table rows cols sets where_).row=int kind::(query.row++str table :: .sl rows.length (rows.flatMap ERow.row) :: .sl cols.length (cols.flatMap srow) :: .sl sets.length (sets.flatMap Expr.row) :: .sl where_.length (where_.flatMap Expr.row)::[]):=by rw[Stmt.row]
mutual
def bR:Stmt->Nat
 |.mk kind query table rows cols sets where_=>aP query+(table.size+(gD rows+(fX cols+(cT sets+(cT where_)))))
end
theorem ey (kind:Int) (query:Query) (table:ByteArray) (rows:List ERow) (cols:List ByteArray) (sets:List Expr) (where_:List Expr):bR (.mk kind query table rows cols sets where_)=aP query+(table.size+(gD rows+(fX cols+(cT sets+(cT where_))))):=by rw[bR]
def ERow.l:ERow->List Expr | .mk l=>l
theorem lM (x:ERow):x.row=[.sl x.l.length (x.l.flatMap Expr.row)]:=by obtain⟨l⟩:=x;rw[ERow.row_mk];rfl
theorem fJ (x:ERow):f7 x=cT x.l:=by obtain⟨l⟩:=x;rw[rl];rfl
theorem ah:type_of% @Expr.row_mk:=@Expr.row_mk
theorem ar:type_of% @Query.row_mk:=@Query.row_mk
theorem aC:type_of% @Expr.row_len:=@Expr.row_len
theorem kh:type_of% @Tok.row_len:=@Tok.row_len
end Go.Proofs.YteffjmaadkkmeaaGreatDoor
