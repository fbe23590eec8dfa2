/-
  Words, numbers and tokens; trees.
  Conditions: none.
-/
import Derived.Test.YteffjmaadkkmeaaGreatDoorQSTypes
import Derived.Shelf.Strings.BuilderF
import Derived.Shelf.LaysM
import Derived.Shelf.LaysC
import Derived.Shelf.Strconv.Itoa3
import Derived.Shelf.Strings.Split
import Derived.Shelf.Strings.Replace
import Derived.Shelf.Strconv.AtoiAll
import Derived.Test.YteffjmaadkkmeaaGreatDoorProg
import Derived.Lib.UnsafeStr
import Derived.Lib.AtoiTie
set_option linter.unusedVariables false
set_option linter.unusedSimpArgs false
set_option linter.unusedSectionVars false
set_option maxRecDepth 8000
namespace Go.Proofs.YteffjmaadkkmeaaGreatDoor
open Go Go.Dv
open Go.Vc (D eb ec dK bN)
abbrev int (n:Int):D:=.lit (.int .i64 n)
abbrev bool (b:Bool):D:=.lit (.bool b)
abbrev str (s:ByteArray):D:=.lit (.string s)
abbrev vi (n:Int):S:=.c (.v (.int .i64 n))
abbrev vb (b:Bool):S:=.c (.v (.bool b))
abbrev vs (s:ByteArray):S:=.c (.v (.string s))
structure Val where
 kind:Int
 num:Int
 text:ByteArray
def Val.row (v:Val):List D:=[int v.kind,int v.num,str v.text]
structure Fa where
 code:Int
 name:ByteArray
def cL (l:Int) (s:Nat):Int:=if (s:Int)≤l then l-s else -1
def Dp (v:Val):Nat:=v.text.size
theorem pG {l:Int} {s:Nat} (h:(s:Int)≤l):cL l s=l-s:=if_pos h
theorem pH {l:Int} {s:Nat} (h:l<s):cL l s = -1:=if_neg (by omega)
theorem gQ {l:Int} {s:Nat} (h0:0≤l) : -1≤cL l s∧cL l s≤l:=by unfold cL;split<;>omega
theorem ux {l:Int} {a b:Nat} (h:0≤cL l a):cL l (a+b)=cL (cL l a) b:=by
 unfold cL at *
 split at h
 ·rename_i h1
  rw[if_pos h1]
  by_cases h2:((a+b:Nat):Int)≤l
  ·rw[if_pos h2,if_pos (by omega)];omega
  ·rw[if_neg h2,if_neg (by omega)]
 ·omega
theorem pT {l:Int} {a b:Nat} (h:cL l a<0) (h0:0≤l):cL l (a+b) = -1:=by
 unfold cL at *
 split at h
 ·omega
 ·exact if_neg (by omega)
theorem eX {a b:Int} (h:a=b):vi a=vi b:=by rw[h]
theorem wJ {a b:ByteArray} (h:a=b):vs a=vs b:=by rw[h]
theorem aE {a b:Bool} (h:a=b):vb a=vb b:=by rw[h]
theorem jx {α:Type} (g:α→Nat) {l:List α} {i:Nat} (h:i<l.length):((l.take (i+1)).map g).sum=((l.take i).map g).sum+g l[i]:=by
 rw[List.take_succ_eq_append_getElem h,List.map_append,List.sum_append];simp only[List.map_cons,List.map_nil,List.sum_cons,List.sum_nil,Nat.add_zero]
theorem cU {α:Type} (g:α→Nat) (l:List α) (i:Nat):∃r,(l.map g).sum=((l.take i).map g).sum+r:=⟨((l.drop i).map g).sum,by
 conv=>lhs;rw[←List.take_append_drop i l]
 rw[List.map_append,List.sum_append]⟩
theorem Cg {α:Type} {row:α→List D} {sz:Nat} (hsz:∀e,(row e).length=sz) {z:List D} (hz:z.length=sz) (l:List α) {i:Nat} (h:i≤l.length) :
 ((l.take i).flatMap row++(List.replicate (l.length-i) z).flatten).length=l.length*sz:=by
 rw[List.length_append,aT hsz,List.length_flatten,List.map_replicate,List.sum_replicate_nat,hz,List.length_take,Nat.min_eq_left h,←Nat.add_mul]
 congr 1;omega
theorem Ch {α:Type} {row:α→List D} {sz:Nat} (hsz:∀e,(row e).length=sz) {z:List D} (hz:z.length=sz) {l:List α} {i:Nat} (h:i<l.length) :
 List.take (i*sz) ((l.take i).flatMap row++(List.replicate (l.length-i) z).flatten)++(row l[i]++List.drop (i*sz+sz) ((l.take i).flatMap row++(List.replicate (l.length-i) z).flatten)) =
  (l.take (i+1)).flatMap row++(List.replicate (l.length-(i+1)) z).flatten:=by
 have hd:((l.take i).flatMap row).length=i*sz:=by rw[aT hsz,List.length_take,Nat.min_eq_left (by omega)]
 rw[List.take_left' hd,show l.length-i=l.length-(i+1)+1 by omega,List.replicate_succ,List.flatten_cons,←List.append_assoc _ z,List.drop_left' (by simp [hd,hz]),List.take_succ_eq_append_getElem h,List.flatMap_append]
 simp only[List.flatMap_cons,List.flatMap_nil,List.append_nil,List.append_assoc]
theorem A7 {α:Type} {row:α→List D} (z:List D) (l:List α):(l.take l.length).flatMap row++(List.replicate (l.length-l.length) z).flatten=l.flatMap row:=by simp
theorem yS (v:Val):Cl Tryz.prog 44 [.ag (an v.row),.ag (an v.row)] [] fun r _=>r=vb true:=by
 rw[Val.row]
 refine ab aa false Tryz.func44 rfl (by kernel_rfl) ?_
 simp only[Tryz.f44,tt,seval]
 exact⟨_,_,rfl,ac rfl⟩
abbrev vu (b:Int):S:=.c (.v (.int .u8 b))
theorem dO (a l h:Int):Cl Tryz.prog 191 [vi a,vi l,vi h] [] fun r _=>r=vb (decide (l≤a∧a≤h)):=by
 refine ab aa false Tryz.func191 rfl (by kernel_rfl) ?_
 simp only[Tryz.f191,tt,seval]
 all_goals repeat' first|(refine And.intro (fun h=>?_) (fun h=>?_)<;>try simp only[tt,seval])|(intro _;try simp only[tt,seval])
 all_goals (refine⟨_,[],aE (Bool.eq_iff_iff.2 ?_),ac rfl⟩)
 all_goals (simp only[decide_eq_true_eq,decide_eq_false_iff_not,Bool.or_eq_true,Bool.and_eq_true,Bool.false_eq_true,Bool.not_eq_true',Bool.not_eq_false',Bool.not_eq_true,true_iff,false_iff] at *)
 all_goals omega
theorem pU (a:Int):Cl Tryz.prog 178 [vu a] [] fun r _=>r=vb (decide (48≤a∧a≤57)):=by
 refine ab aa false Tryz.func178 rfl (by kernel_rfl) ?_
 simp only[Tryz.f178,tt,seval]
 all_goals repeat' first|(refine And.intro (fun h=>?_) (fun h=>?_)<;>try simp only[tt,seval])|(intro _;try simp only[tt,seval])
 all_goals (refine⟨_,[],aE (Bool.eq_iff_iff.2 ?_),ac rfl⟩)
 all_goals (simp only[decide_eq_true_eq,decide_eq_false_iff_not,Bool.or_eq_true,Bool.and_eq_true,Bool.false_eq_true,Bool.not_eq_true',Bool.not_eq_false',Bool.not_eq_true,true_iff,false_iff] at *)
 all_goals omega
theorem oD (a:Int):Cl Tryz.prog 233 [vu a] [] fun r _=>r=vb (decide (48≤a∧a≤57)):=by
 refine ab aa false Tryz.func233 rfl (by kernel_rfl) ?_
 simp only[Tryz.f233,tt,seval]
 all_goals repeat' first|(refine And.intro (fun h=>?_) (fun h=>?_)<;>try simp only[tt,seval])|(intro _;try simp only[tt,seval])
 all_goals (refine⟨_,[],aE (Bool.eq_iff_iff.2 ?_),ac rfl⟩)
 all_goals (simp only[decide_eq_true_eq,decide_eq_false_iff_not,Bool.or_eq_true,Bool.and_eq_true,Bool.false_eq_true,Bool.not_eq_true',Bool.not_eq_false',Bool.not_eq_true,true_iff,false_iff] at *)
 all_goals omega
def mo (a:Int):Bool:=decide (97≤a∧a≤122)||decide (65≤a∧a≤90)||decide (a=95)
theorem pV (a:Int):Cl Tryz.prog 174 [vu a] [] fun r _=>r=vb (mo a):=by
 refine ab aa false Tryz.func174 rfl (by kernel_rfl) ?_
 simp only[Tryz.f174,tt,seval]
 all_goals repeat' first|(refine And.intro (fun h=>?_) (fun h=>?_)<;>try simp only[tt,seval])|(intro _;try simp only[tt,seval])
 all_goals (refine⟨_,[],aE (Bool.eq_iff_iff.2 ?_),ac rfl⟩)
 all_goals (simp only[decide_eq_true_eq,decide_eq_false_iff_not,Bool.or_eq_true,Bool.and_eq_true,Bool.false_eq_true,Bool.not_eq_true',Bool.not_eq_false',Bool.not_eq_true,true_iff,false_iff,mo] at *)
 all_goals omega
theorem yT (a:Int):Cl Tryz.prog 276 [vu a] [] fun r _=>r=vb (mo a):=by
 refine ab aa false Tryz.func276 rfl (by kernel_rfl) ?_
 simp only[Tryz.f276,tt,seval]
 all_goals repeat' first|(refine And.intro (fun h=>?_) (fun h=>?_)<;>try simp only[tt,seval])|(intro _;try simp only[tt,seval])
 all_goals (refine⟨_,[],aE (Bool.eq_iff_iff.2 ?_),ac rfl⟩)
 all_goals (simp only[decide_eq_true_eq,decide_eq_false_iff_not,Bool.or_eq_true,Bool.and_eq_true,Bool.false_eq_true,Bool.not_eq_true',Bool.not_eq_false',Bool.not_eq_true,true_iff,false_iff,mo] at *)
 all_goals omega
theorem jN (s:ByteArray):Cl Tryz.prog 194 [vs s] [] fun r _=>r=vb (decide (1≤s.size∧s.size≤20)):=by
 refine ab aa false Tryz.func194 rfl (by kernel_rfl) ?_
 simp only[Tryz.f194,tt,seval]
 refine fun hs=>?_
 refine cZ (dO s.size 1 20) (by decide) ?_ ?_<;>simp only[tt,seval]
 exact⟨_,_,aE (by simp only[decide_eq_decide];omega),ac rfl⟩
theorem gy (s:ByteArray):Cl Tryz.prog 140 [vs s] [] fun r _=>r=vb (decide (1≤s.size∧s.size≤20)):=by
 refine ab aa false Tryz.func140 rfl (by kernel_rfl) ?_
 simp only[Tryz.f140,tt,seval]
 refine fun hs=>?_
 all_goals repeat' first|(refine And.intro (fun h=>?_) (fun h=>?_)<;>try simp only[tt,seval])|(intro _;try simp only[tt,seval])
 all_goals (refine⟨_,[],aE (Bool.eq_iff_iff.2 ?_),ac rfl⟩)
 all_goals (simp only[decide_eq_true_eq,decide_eq_false_iff_not,Bool.or_eq_true,Bool.and_eq_true,Bool.false_eq_true,Bool.not_eq_true',Bool.not_eq_false',Bool.not_eq_true,true_iff,false_iff] at *)
 all_goals omega
theorem uy (a:Int):Cl Tryz.prog 232 [vu a] [] fun r _=>r=vb (mo a||decide (48≤a∧a≤57)):=by
 refine ab aa false Tryz.func232 rfl (by kernel_rfl) ?_
 simp only[Tryz.f232,tt,seval]
 refine cZ (yT a) (by decide) ?_ ?_<;>simp only[tt,seval]
 refine And.intro (fun h=>?_) (fun h=>?_)
 ·simp only[tt,seval]
  exact⟨_,_,aE (by rw[h];rfl),ac rfl⟩
 ·simp only[tt,seval]
  refine cZ (oD a) (by decide) ?_ ?_<;>simp only[tt,seval]
  exact⟨_,_,aE (by rw[h];rfl),ac rfl⟩
def up8 (b:UInt8):UInt8:=if 97≤b.toNat∧b.toNat≤122 then b-32 else b
def cM (s:ByteArray):ByteArray:=⟨(s.data.toList.map up8).toArray⟩
theorem pW (l:List UInt8):(bU l).length=l.length:=by simp [bU]
theorem pb {l:List UInt8} {i:Nat} (h:i<l.length):(bU l).drop i=D.lit (.int .u8 (l[i].toNat:Int))::(bU l).drop (i+1):=by
 unfold bU
 rw[←List.map_drop,←List.map_drop,List.drop_eq_getElem_cons h];rfl
theorem pX {l:List UInt8} {i:Nat} {b:UInt8} (h:i<l.length):(bU l).take i++(D.lit (.int .u8 (b.toNat:Int))::(bU l).drop (i+1))=bU (l.set i b):=by
 unfold bU
 rw[List.set_eq_take_append_cons_drop,if_pos h,List.map_append,List.map_cons,List.map_take,List.map_drop]
theorem bS (s:ByteArray):s.data.toList.length=s.size:=by simp
def rQ (l:List UInt8) (i:Nat):List UInt8:=(l.take i).map up8++l.drop i
theorem jb (l:List UInt8) (i:Nat):(rQ l i).length=l.length:=by rw[rQ,List.length_append,List.length_map,←List.length_append,List.take_append_drop]
theorem tg {l:List UInt8} {i:Nat} (h:i<l.length):(rQ l i)[i]'(by rw[jb];exact h)=l[i]:=by
 have hl:((l.take i).map up8).length=i:=by simp;omega
 have:(rQ l i)[i]?=some l[i]:=by
  rw[rQ,List.getElem?_append_right (by omega),hl,Nat.sub_self,List.drop_eq_getElem_cons h];rfl
 rw[List.getElem?_eq_getElem (by rw[jb];exact h)] at this
 exact Option.some.inj this
theorem pY {l:List UInt8} {i:Nat} (h:i<l.length):(rQ l i).set i (up8 l[i])=rQ l (i+1):=by
 have hl:((l.take i).map up8).length=i:=by simp;omega
 unfold rQ
 rw[List.set_append_right _ _ (by omega),hl,Nat.sub_self,List.drop_eq_getElem_cons h,List.set_cons_zero,List.take_succ_eq_append_getElem h,List.map_append]
 simp
theorem np {l:List UInt8} {i:Nat} (h:i<l.length) (hu:up8 l[i]=l[i]):rQ l i=rQ l (i+1):=by
 rw[←pY h,hu]
 conv=>rhs;rw[←tg h]
 rw[List.set_getElem_self]
theorem xE (l:List UInt8):rQ l l.length=l.map up8:=by simp [rQ]
theorem th {b:UInt8} (h:¬(97≤b.toNat∧b.toNat≤122)):up8 b=b:=if_neg h
theorem xF {b:UInt8} (h:97≤b.toNat) (h':b.toNat≤122):((up8 b).toNat:Int)=b.toNat-32:=by
 unfold up8
 rw[if_pos ⟨h,h'⟩,UInt8.toNat_sub_of_le _ _ (by rw[UInt8.le_iff_toNat_le];show 32≤_;omega)]
 show ((b.toNat-32:Nat):Int)=_
 omega
theorem wK (s:ByteArray) (hs:s.size≤1048576):Cl Tryz.prog 177 [vs s] [] fun r _=>r=vs (cM s):=by
 obtain⟨l,hl⟩:∃l,l=s.data.toList:=⟨_,rfl⟩
 have hll:l.length=s.size:=by rw[hl];exact bS s
 refine ab aa false Tryz.func177 rfl (by kernel_rfl) ?_
 simp only[Tryz.f177,tt,seval]
 rw[←hl]
 refine dLoop.intro (fun f L p=>∃i:Nat,f 4=vi i∧i≤s.size∧L=[(6,.arr 5 s.size (bU (rQ l i)) none)]∧p=none) (fun f _ _=>(s.size-bn (f 4)).toNat) [(6,.arr 5 s.size (bU l) none)] none ⟨SubO.cons rfl (SubO.nil _),PoSub.none _,?_⟩ ?_
 ·simp only[tt,seval]
  exact⟨0,rfl,by omega,by simp [rQ]⟩
 ·rintro g L p ⟨i,h4,hi,rfl,rfl⟩
  simp only[tt,seval] at h4
  simp only[tt,seval,h4,Int.ofNat_lt]
  refine fun _=>And.intro (fun hlt=>?_) (fun hge=>?_)
  ·have hlt':i<(rQ l i).length:=by rw[jb];omega
   have hd:=pb hlt'
   rw[tg (by omega)] at hd
   have hi0:(0:Int)≤(i:Int):=Int.natCast_nonneg i
   have hlI:(i:Int)<(s.size:Int):=by omega
   simp only[tt,seval,h4,hd,Nat.mul_one,hlt,hi0,hlI]
   refine And.intro (fun h=>?_) (fun h=>?_)
   ·simp only[tt,seval,h4,hd,Nat.mul_one,hlt,hi0,hlI]
    simp only[decide_eq_true_eq] at h
    refine And.intro (fun h'=>?_) (fun h'=>?_)
    ·rw[ak (n:=(i:Int)+1) (by omega) (by omega),IntWalk.u8_in _ ⟨by omega,by omega⟩,←xF (by omega) (by omega),pX hlt',pY (by omega)]
     exact⟨by rw[pW,jb];omega,_,none,SubO.cons rfl (SubO.nil _),PoSub.none _,⟨i+1,rfl,by omega,rfl,rfl⟩,by simp only[bn];omega⟩
    ·rw[eE i (by omega)]
     have hsame:=np (l:=l) (i:=i) (by omega) (th fun h1=>by omega)
     exact⟨_,none,SubO.cons rfl (SubO.nil _),PoSub.none _,⟨i+1,rfl,by omega,congrArg (fun x=>[(6,O.arr 5 s.size (bU x) none)]) hsame,rfl⟩,by simp only[bn];omega⟩
   ·simp only[tt,seval,h4,hd,Nat.mul_one,hlt,hi0,hlI]
    rw[eE i (by omega)]
    have hsame:=np (l:=l) (i:=i) (by omega) (th fun h1=>by simp only[decide_eq_false_iff_not] at h;omega)
    exact⟨_,none,SubO.cons rfl (SubO.nil _),PoSub.none _,⟨i+1,rfl,by omega,congrArg (fun x=>[(6,O.arr 5 s.size (bU x) none)]) hsame,rfl⟩,by simp only[bn];omega⟩
  ·have:i=s.size:=by omega
   subst this
   refine⟨by kernel_rfl,by simp only[maxLen];omega,rQ l s.size,by rw[jb];exact hll,rfl,?_⟩
   simp only[tt,seval]
   exact⟨_,_,wJ (by rw[←hll,xE,hl];rfl),ac rfl⟩
theorem pI (s:ByteArray) (hs:s.size≤1048576):Cl Tryz.prog 235 [vs s] [] fun r _=>r=vs (cM s):=by
 obtain⟨l,hl⟩:∃l,l=s.data.toList:=⟨_,rfl⟩
 have hll:l.length=s.size:=by rw[hl];exact bS s
 refine ab aa false Tryz.func235 rfl (by kernel_rfl) ?_
 simp only[Tryz.f235,tt,seval]
 rw[←hl]
 refine fun _=>?_
 refine dLoop.intro (fun f L p=>∃i:Nat,f 10=vi i∧i≤s.size∧L=[(7,.arr 5 s.size (bU (rQ l i)) none)]∧p=none) (fun f _ _=>(s.size-bn (f 10)).toNat) [(7,.arr 5 s.size (bU l) none)] none ⟨SubO.cons rfl (SubO.nil _),PoSub.none _,?_⟩ ?_
 ·simp only[tt,seval]
  exact⟨0,rfl,by omega,by simp [rQ]⟩
 ·rintro g L p ⟨i,h4,hi,rfl,rfl⟩
  simp only[tt,seval] at h4
  simp only[tt,seval,h4,Int.ofNat_lt]
  refine And.intro (fun hlt=>?_) (fun hge=>?_)
  ·have hlt':i<(rQ l i).length:=by rw[jb];omega
   have hd:=pb hlt'
   rw[tg (by omega)] at hd
   have hi0:(0:Int)≤(i:Int):=Int.natCast_nonneg i
   have hlI:(i:Int)<(s.size:Int):=by omega
   simp only[tt,seval,h4,hd,Nat.mul_one,hlt,hi0,hlI]
   refine And.intro (fun h=>?_) (fun h=>?_)
   ·simp only[tt,seval,h4,hd,Nat.mul_one,hlt,hi0,hlI]
    simp only[decide_eq_true_eq] at h
    refine And.intro (fun h'=>?_) (fun h'=>?_)
    ·rw[ak (n:=(i:Int)+1) (by omega) (by omega),IntWalk.u8_in ((l[i].toNat:Int)-97) ⟨by omega,by omega⟩,IntWalk.u8_in _ ⟨by omega,by omega⟩,show (l[i].toNat:Int)-97+65=l[i].toNat-32 by omega,←xF (by omega) (by omega),pX hlt',pY (by omega)]
     exact⟨by rw[pW,jb];omega,_,none,SubO.cons rfl (SubO.nil _),PoSub.none _,⟨i+1,rfl,by omega,rfl,rfl⟩,by simp only[bn];omega⟩
    ·rw[eE i (by omega)]
     have hsame:=np (l:=l) (i:=i) (by omega) (th fun h1=>by omega)
     exact⟨_,none,SubO.cons rfl (SubO.nil _),PoSub.none _,⟨i+1,rfl,by omega,congrArg (fun x=>[(7,O.arr 5 s.size (bU x) none)]) hsame,rfl⟩,by simp only[bn];omega⟩
   ·simp only[tt,seval,h4,hd,Nat.mul_one,hlt,hi0,hlI]
    rw[eE i (by omega)]
    have hsame:=np (l:=l) (i:=i) (by omega) (th fun h1=>by simp only[decide_eq_false_iff_not] at h;omega)
    exact⟨_,none,SubO.cons rfl (SubO.nil _),PoSub.none _,⟨i+1,rfl,by omega,congrArg (fun x=>[(7,O.arr 5 s.size (bU x) none)]) hsame,rfl⟩,by simp only[bn];omega⟩
  ·have:i=s.size:=by omega
   subst this
   refine⟨by kernel_rfl,by simp only[maxLen];omega,rQ l s.size,by rw[jb];exact hll,rfl,?_⟩
   simp only[tt,seval]
   exact⟨_,_,wJ (by rw[←hll,xE,hl];rfl),ac rfl⟩
def srow (s:ByteArray):List D:=[str s]
theorem dB (n:ByteArray):(srow n).length=1:=rfl
theorem gO (v:ByteArray) (r:List D):eA 1 (srow v++r)=some (srow v):=eS rfl
theorem jc (v:ByteArray) (r:List D):srow v++r≠[]:=fun h=>by cases h
def kws:List ByteArray:=[⟨#[83,69,76,69,67,84]⟩,⟨#[68,73,83,84,73,78,67,84]⟩,⟨#[70,82,79,77]⟩,⟨#[74,79,73,78]⟩,⟨#[79,78]⟩,⟨#[87,72,69,82,69]⟩,⟨#[79,82,68,69,82]⟩,⟨#[66,89]⟩,⟨#[65,83,67]⟩,⟨#[68,69,83,67]⟩,⟨#[76,73,77,73,84]⟩,⟨#[65,83]⟩,⟨#[65,78,68]⟩,⟨#[79,82]⟩,⟨#[78,79,84]⟩,⟨#[73,83]⟩,⟨#[73,78]⟩,⟨#[66,69,84,87,69,69,78]⟩,⟨#[69,88,73,83,84,83]⟩,⟨#[78,85,76,76]⟩,⟨#[84,82,85,69]⟩,⟨#[70,65,76,83,69]⟩,⟨#[73,78,83,69,82,84]⟩,⟨#[73,78,84,79]⟩,⟨#[86,65,76,85,69,83]⟩,⟨#[85,80,68,65,84,69]⟩,⟨#[83,69,84]⟩,⟨#[68,69,76,69,84,69]⟩]
def pc:List ByteArray:=⟨#[]⟩::kws
theorem Ci:List.range 29=[0,1,2,3,4,5,6,7,8,9,10,11,12,13,14,15,16,17,18,19,20,21,22,23,24,25,26,27,28]:=rfl
theorem El (α:Type) (a:α):List.replicate 29 a=[a,a,a,a,a,a,a,a,a,a,a,a,a,a,a,a,a,a,a,a,a,a,a,a,a,a,a,a,a]:=rfl
theorem rR:Cl Tryz.prog 224 [] [] fun r _=>r = .c (.sl 29 (pc.flatMap srow) none):=by
 refine ab aa false Tryz.func224 rfl (by kernel_rfl) ?_
 simp only[tt,seval,Tryz.f224,Ci,El]
 refine⟨_,[],rfl,aj ?_⟩
 simp only[tt,seval,pc,kws,srow]
theorem xG {α:Type} {l:List α} {p:α→Bool} {i:Nat} (h:i<l.length) (hp:p l[i]=true) (hn:∀j (hj:j<i),p (l[j]'(by omega))=false):l.findIdx p=i:=(List.findIdx_eq h).2 ⟨hp,hn⟩
theorem tj {α:Type} {l:List α} {p:α→Bool} (hn:∀j (hj:j<l.length),p l[j]=false):l.findIdx p=l.length:=List.findIdx_eq_length_of_false fun x hx=>by
 obtain⟨j,hj,rfl⟩:=List.mem_iff_getElem.1 hx
 exact hn j hj
def nq (f:ByteArray) (l:List ByteArray):Int:=if l.findIdx (fun w=>decide (w=f))<l.length then l.findIdx (fun w=>decide (w=f)) else -1
def nr (s:ByteArray):Int:=nq (cM s) kws+1
theorem xH (l:List ByteArray) (f:ByteArray):Cl Tryz.prog 277 [.c (.sl l.length (l.flatMap srow) none),vs f] [] fun r _=>r=vi (nq f l):=by
 refine ab aa false Tryz.func277 rfl (by kernel_rfl) ?_
 simp only[Tryz.f277,tt,seval]
 refine fun _=>?_
 refine dLoop.intro (fun f' L p=>∃i:Nat,f' 8=vi i∧i≤l.length∧(∀j (hj:j<l.length),j<i→l[j]≠f)∧L=[]∧p=none) (fun f' _ _=>(l.length-bn (f' 8)).toNat) [] none ⟨SubO.nil _,PoSub.none _,?_⟩ ?_
 ·simp only[tt,seval]
  exact⟨0,rfl,by omega,fun j _ h=>absurd h (Nat.not_lt_zero _)⟩
 ·rintro g L p ⟨i,h8,hi,hn,rfl,rfl⟩
  simp only[tt,seval] at h8
  simp only[tt,seval,h8,Int.ofNat_lt]
  refine And.intro (fun hlt=>?_) (fun hge=>?_)
  ·refine⟨by omega,by omega,_,ax dB (List.getElem?_eq_getElem hlt),jc _ _,?_⟩
   simp only[tt,seval,h8,gO,srow]
   refine And.intro (fun he=>?_) (fun he=>?_)
   ·refine⟨_,_,eX ?_,ac rfl⟩
    rw[nq,xG hlt (by simp [he]) (fun j hj=>by simpa using hn j (by omega) hj),if_pos hlt]
   ·rw[eE i (by omega)]
    exact⟨[],none,SubO.nil _,PoSub.none _,⟨i+1,rfl,by omega,fun j hj hji=>by
     by_cases e:j=i
     ·subst e;exact fun h=>he h.symm
     ·exact hn j hj (by omega),rfl,rfl⟩,by simp only[bn];omega⟩
  ·refine⟨_,_,eX ?_,ac rfl⟩
   rw[nq,tj (fun j hj=>by simpa using hn j hj (by omega)),if_neg (by omega)]
theorem kq (s:ByteArray):(cM s).size=s.size:=by
 show (List.toArray _).size=_
 simp
theorem rT:∀w∈kws,w.size≤8:=by decide
theorem rU:pc.length=29:=rfl
theorem nt:kws.length=28:=rfl
theorem wL {j:Nat} (h:j+1<pc.length):pc[j+1]=kws[j]'(by simp only[rU] at h;simp only[nt];omega):=rfl
theorem uz {s:ByteArray} (h:8<s.size):nr s=0:=by
 unfold nr nq
 rw[tj (l:=kws) (p:=fun w=>decide (w=cM s)) (fun j hj=>decide_eq_false fun e=>by
  have:=rT _ (List.getElem_mem hj)
  rw[e,kq] at this
  omega),if_neg (Nat.lt_irrefl _)]
 rfl
theorem xI (s:ByteArray) (hs:s.size≤1048576):Cl Tryz.prog 176 [vs s] [] fun r _=>r=vi (nr s):=by
 refine ab aa false Tryz.func176 rfl (by kernel_rfl) ?_
 simp only[Tryz.f176,tt,seval]
 refine fun _=>And.intro (fun hlt=>?_) (fun hge=>?_)
 ·exact⟨_,_,eX (uz (by omega)).symm,ac rfl⟩
 ·skip
  refine cZ (wK s hs) (by decide) ?_ ?_<;>simp only[tt,seval]
  refine cZ (rR) (by decide) ?_ ?_<;>simp only[tt,seval]
  refine dLoop.intro (fun f' L p=>∃i:Nat,f' 5=vi i∧1≤i∧i≤29∧(∀j (hj:j<kws.length),j+1<i→kws[j]≠cM s)∧L=[]∧p=none) (fun f' _ _=>(29-bn (f' 5)).toNat) [] none ⟨SubO.nil _,PoSub.none _,?_⟩ ?_
  ·simp only[tt,seval]
   exact⟨1,rfl,by omega,by omega,fun j _ h=>absurd h (by omega)⟩
  ·rintro g L p ⟨i,h8,hi1,hi,hn,rfl,rfl⟩
   simp only[tt,seval] at h8
   simp only[tt,seval,h8]
   refine And.intro (fun hlt=>?_) (fun hge=>?_)
   ·have hlt':i<pc.length:=by rw[rU];omega
    obtain⟨j,rfl⟩:∃j,i=j+1:=⟨i-1,by omega⟩
    have hj:j<kws.length:=by rw[nt];omega
    refine⟨by omega,by omega,_,ax dB (List.getElem?_eq_getElem hlt'),jc _ _,?_⟩
    rw[wL hlt']
    simp only[tt,seval,h8,gO,srow]
    refine And.intro (fun he=>?_) (fun he=>?_)
    ·refine⟨_,_,eX ?_,ac rfl⟩
     rw[nr,nq,xG hj (by simp [he]) (fun j' hj'=>by simpa using hn j' (by omega) (by omega)),if_pos hj]
     omega
    ·rw[ak (n:=((j+1:Nat):Int)+1) (by omega) (by omega)]
     exact⟨[],none,SubO.nil _,PoSub.none _,⟨j+2,rfl,by omega,by omega,fun j' hj' hji=>by
      by_cases e:j'=j
      ·subst e;exact he
      ·exact hn j' hj' (by omega),rfl,rfl⟩,by simp only[bn];omega⟩
   ·refine⟨_,_,eX ?_,ac rfl⟩
    rw[nr,nq,tj (fun j hj=>by simpa using hn j hj (by rw[nt] at hj;omega)),if_neg (by omega)]
    rfl
end Go.Proofs.YteffjmaadkkmeaaGreatDoor
namespace Go.Proofs.YteffjmaadkkmeaaGreatDoor
open Go Go.Shelf Go.Proofs
def Tryz.lays146_ren:Go.Shelf.Ren:=⟨fun|146=>297|221=>321|268=>333|138=>334|143=>231|195=>345|197=>346|218=>347|219=>275|260=>355|217=>273|225=>312|224=>313|267=>314|266=>311|314=>330|n=>n,fun|9=>9|31=>49|3=>3|4=>4|0=>0|105=>282|21=>21|5=>5|46=>251|119=>291|139=>294|138=>293|146=>268|51=>267|n=>n,fun|1=>0|3=>4|4=>5|n=>n⟩
theorem Tryz.lays146:Go.Proofs.Lays.n146 Tryz.prog Tryz.lays146_ren:={
 mixed:=by kernel_rfl
 f138:=Tryz.func334.trans (congrArg some (by kernel_rfl))
 f143:=Tryz.func231.trans (congrArg some (by kernel_rfl))
 f146:=Tryz.func297.trans (congrArg some (by kernel_rfl))
 f195:=Tryz.func345.trans (congrArg some (by kernel_rfl))
 f197:=Tryz.func346.trans (congrArg some (by kernel_rfl))
 f217:=Tryz.func273.trans (congrArg some (by kernel_rfl))
 f218:=Tryz.func347.trans (congrArg some (by kernel_rfl))
 f219:=Tryz.func275.trans (congrArg some (by kernel_rfl))
 f221:=Tryz.func321.trans (congrArg some (by kernel_rfl))
 f224:=Tryz.func313.trans (congrArg some (by kernel_rfl))
 f225:=Tryz.func312.trans (congrArg some (by kernel_rfl))
 f260:=Tryz.func355.trans (congrArg some (by kernel_rfl))
 f266:=Tryz.func311.trans (congrArg some (by kernel_rfl))
 f267:=Tryz.func314.trans (congrArg some (by kernel_rfl))
 f268:=Tryz.func333.trans (congrArg some (by kernel_rfl))
 f314:=Tryz.func330.trans (congrArg some (by kernel_rfl))
 t0:=Tryz.underlying0
 a0:=Tryz.isAgg0
 z0:=Tryz.sizeOf0
 v0:=Tryz.zeroValue0
 t3:=Tryz.underlying3
 a3:=Tryz.isAgg3
 z3:=Tryz.sizeOf3
 v3:=Tryz.zeroValue3
 t4:=Tryz.underlying4
 a4:=Tryz.isAgg4
 z4:=Tryz.sizeOf4
 v4:=Tryz.zeroValue4
 t5:=Tryz.underlying5
 a5:=Tryz.isAgg5
 z5:=Tryz.sizeOf5
 v5:=Tryz.zeroValue5
 t9:=Tryz.underlying9
 a9:=Tryz.isAgg9
 z9:=Tryz.sizeOf9
 v9:=Tryz.zeroValue9
 t21:=Tryz.underlying21
 a21:=Tryz.isAgg21
 z21:=Tryz.sizeOf21
 v21:=Tryz.zeroValue21
 t31:=Tryz.underlying49
 a31:=Tryz.isAgg49
 z31:=Tryz.sizeOf49
 v31:=Tryz.zeroValue49
 t46:=Tryz.underlying251
 a46:=Tryz.isAgg251
 z46:=Tryz.sizeOf251
 v46:=Tryz.zeroValue251
 t51:=Tryz.underlying267
 a51:=Tryz.isAgg267
 z51:=Tryz.sizeOf267
 v51:=Tryz.zeroValue267
 t105:=Tryz.underlying282
 a105:=Tryz.isAgg282
 z105:=Tryz.sizeOf282
 v105:=Tryz.zeroValue282
 t119:=Tryz.underlying291
 a119:=Tryz.isAgg291
 z119:=Tryz.sizeOf291
 t138:=Tryz.underlying293
 a138:=Tryz.isAgg293
 z138:=Tryz.sizeOf293
 v138:=Tryz.zeroValue293
 t139:=Tryz.underlying294
 a139:=Tryz.isAgg294
 z139:=Tryz.sizeOf294
 v139:=Tryz.zeroValue294
 t146:=Tryz.underlying268
 a146:=Tryz.isAgg268
 z146:=Tryz.sizeOf268
 v146:=Tryz.zeroValue268
 g1:=by kernel_rfl
 g3:=by kernel_rfl
 g4:=by kernel_rfl }
def Tryz.laysM171_ren:Go.Shelf.Ren:=⟨fun|171=>271|243=>310|246=>329|283=>340|284=>341|285=>342|286=>343|129=>350|317=>349|318=>351|319=>352|320=>353|337=>360|338=>361|n=>n,fun|3=>3|9=>9|2=>2|4=>4|171=>276|0=>0|53=>260|37=>119|5=>5|173=>279|212=>285|51=>267|20=>20|213=>286|46=>251|232=>295|233=>296|n=>n,fun|17=>3|18=>6|19=>7|n=>n⟩
theorem Tryz.laysM171:Go.Proofs.LaysM.n171 Tryz.prog Tryz.laysM171_ren:={
 mixed:=by kernel_rfl
 f129:=Tryz.func350.trans (congrArg some (by kernel_rfl))
 f171:=Tryz.func271.trans (congrArg some (by kernel_rfl))
 f243:=Tryz.func310.trans (congrArg some (by kernel_rfl))
 f246:=Tryz.func329.trans (congrArg some (by kernel_rfl))
 f283:=Tryz.func340.trans (congrArg some (by kernel_rfl))
 f284:=Tryz.func341.trans (congrArg some (by kernel_rfl))
 f285:=Tryz.func342.trans (congrArg some (by kernel_rfl))
 f286:=Tryz.func343.trans (congrArg some (by kernel_rfl))
 f317:=Tryz.func349.trans (congrArg some (by kernel_rfl))
 f318:=Tryz.func351.trans (congrArg some (by kernel_rfl))
 f319:=Tryz.func352.trans (congrArg some (by kernel_rfl))
 f320:=Tryz.func353.trans (congrArg some (by kernel_rfl))
 f337:=Tryz.func360.trans (congrArg some (by kernel_rfl))
 f338:=Tryz.func361.trans (congrArg some (by kernel_rfl))
 t0:=Tryz.underlying0
 a0:=Tryz.isAgg0
 z0:=Tryz.sizeOf0
 v0:=Tryz.zeroValue0
 t2:=Tryz.underlying2
 a2:=Tryz.isAgg2
 z2:=Tryz.sizeOf2
 v2:=Tryz.zeroValue2
 t3:=Tryz.underlying3
 a3:=Tryz.isAgg3
 z3:=Tryz.sizeOf3
 v3:=Tryz.zeroValue3
 t4:=Tryz.underlying4
 a4:=Tryz.isAgg4
 z4:=Tryz.sizeOf4
 v4:=Tryz.zeroValue4
 t5:=Tryz.underlying5
 a5:=Tryz.isAgg5
 z5:=Tryz.sizeOf5
 v5:=Tryz.zeroValue5
 t9:=Tryz.underlying9
 a9:=Tryz.isAgg9
 z9:=Tryz.sizeOf9
 v9:=Tryz.zeroValue9
 t20:=Tryz.underlying20
 a20:=Tryz.isAgg20
 z20:=Tryz.sizeOf20
 v20:=Tryz.zeroValue20
 t37:=Tryz.underlying119
 a37:=Tryz.isAgg119
 z37:=Tryz.sizeOf119
 v37:=Tryz.zeroValue119
 t46:=Tryz.underlying251
 a46:=Tryz.isAgg251
 z46:=Tryz.sizeOf251
 v46:=Tryz.zeroValue251
 t51:=Tryz.underlying267
 a51:=Tryz.isAgg267
 z51:=Tryz.sizeOf267
 v51:=Tryz.zeroValue267
 t53:=Tryz.underlying260
 a53:=Tryz.isAgg260
 z53:=Tryz.sizeOf260
 v53:=Tryz.zeroValue260
 t171:=Tryz.underlying276
 a171:=Tryz.isAgg276
 z171:=Tryz.sizeOf276
 v171:=Tryz.zeroValue276
 t173:=Tryz.underlying279
 a173:=Tryz.isAgg279
 z173:=Tryz.sizeOf279
 v173:=Tryz.zeroValue279
 t212:=Tryz.underlying285
 a212:=Tryz.isAgg285
 z212:=Tryz.sizeOf285
 v212:=Tryz.zeroValue285
 t213:=Tryz.underlying286
 a213:=Tryz.isAgg286
 z213:=Tryz.sizeOf286
 t232:=Tryz.underlying295
 a232:=Tryz.isAgg295
 z232:=Tryz.sizeOf295
 v232:=Tryz.zeroValue295
 t233:=Tryz.underlying296
 a233:=Tryz.isAgg296
 z233:=Tryz.sizeOf296
 v233:=Tryz.zeroValue296
 g17:=by kernel_rfl
 g18:=by kernel_rfl
 g19:=by kernel_rfl
 i0:=by kernel_rfl
 i2:=by kernel_rfl
 i3:=by kernel_rfl
 i4:=by kernel_rfl
 i5:=by kernel_rfl
 i9:=by kernel_rfl
 i20:=by kernel_rfl
 i37:=by kernel_rfl
 i46:=by kernel_rfl
 i51:=by kernel_rfl
 i53:=by kernel_rfl
 i171:=by kernel_rfl
 i173:=by kernel_rfl
 i212:=by kernel_rfl
 i232:=by kernel_rfl
 i233:=by kernel_rfl
 m17:=by kernel_rfl
 m18:=by kernel_rfl
 m19:=by kernel_rfl }
def Tryz.laysC172_ren:Go.Shelf.Ren:=⟨fun|172=>226|244=>269|245=>270|247=>305|279=>306|280=>307|281=>308|282=>309|287=>326|316=>327|171=>271|205=>328|321=>338|322=>339|243=>310|246=>329|283=>340|284=>341|285=>342|286=>343|129=>350|317=>349|318=>351|319=>352|320=>353|337=>360|338=>361|n=>n,fun|9=>9|3=>3|75=>203|76=>204|4=>4|5=>5|167=>244|37=>119|0=>0|85=>245|2=>2|168=>247|53=>260|175=>261|46=>251|210=>264|127=>236|145=>275|143=>273|21=>21|171=>276|173=>279|212=>285|51=>267|20=>20|213=>286|232=>295|233=>296|80=>166|n=>n,fun|15=>1|16=>2|17=>3|18=>6|19=>7|n=>n⟩
theorem Tryz.laysC172:Go.Proofs.LaysC.n172 Tryz.prog Tryz.laysC172_ren:={
 mixed:=by kernel_rfl
 f129:=Tryz.func350.trans (congrArg some (by kernel_rfl))
 f171:=Tryz.func271.trans (congrArg some (by kernel_rfl))
 f172:=Tryz.func226.trans (congrArg some (by kernel_rfl))
 f205:=Tryz.func328.trans (congrArg some (by kernel_rfl))
 f243:=Tryz.func310.trans (congrArg some (by kernel_rfl))
 f244:=Tryz.func269.trans (congrArg some (by kernel_rfl))
 f245:=Tryz.func270.trans (congrArg some (by kernel_rfl))
 f246:=Tryz.func329.trans (congrArg some (by kernel_rfl))
 f247:=Tryz.func305.trans (congrArg some (by kernel_rfl))
 f279:=Tryz.func306.trans (congrArg some (by kernel_rfl))
 f280:=Tryz.func307.trans (congrArg some (by kernel_rfl))
 f281:=Tryz.func308.trans (congrArg some (by kernel_rfl))
 f282:=Tryz.func309.trans (congrArg some (by kernel_rfl))
 f283:=Tryz.func340.trans (congrArg some (by kernel_rfl))
 f284:=Tryz.func341.trans (congrArg some (by kernel_rfl))
 f285:=Tryz.func342.trans (congrArg some (by kernel_rfl))
 f286:=Tryz.func343.trans (congrArg some (by kernel_rfl))
 f287:=Tryz.func326.trans (congrArg some (by kernel_rfl))
 f316:=Tryz.func327.trans (congrArg some (by kernel_rfl))
 f317:=Tryz.func349.trans (congrArg some (by kernel_rfl))
 f318:=Tryz.func351.trans (congrArg some (by kernel_rfl))
 f319:=Tryz.func352.trans (congrArg some (by kernel_rfl))
 f320:=Tryz.func353.trans (congrArg some (by kernel_rfl))
 f321:=Tryz.func338.trans (congrArg some (by kernel_rfl))
 f322:=Tryz.func339.trans (congrArg some (by kernel_rfl))
 f337:=Tryz.func360.trans (congrArg some (by kernel_rfl))
 f338:=Tryz.func361.trans (congrArg some (by kernel_rfl))
 t0:=Tryz.underlying0
 a0:=Tryz.isAgg0
 z0:=Tryz.sizeOf0
 v0:=Tryz.zeroValue0
 t2:=Tryz.underlying2
 a2:=Tryz.isAgg2
 z2:=Tryz.sizeOf2
 v2:=Tryz.zeroValue2
 t3:=Tryz.underlying3
 a3:=Tryz.isAgg3
 z3:=Tryz.sizeOf3
 v3:=Tryz.zeroValue3
 t4:=Tryz.underlying4
 a4:=Tryz.isAgg4
 z4:=Tryz.sizeOf4
 v4:=Tryz.zeroValue4
 t5:=Tryz.underlying5
 a5:=Tryz.isAgg5
 z5:=Tryz.sizeOf5
 v5:=Tryz.zeroValue5
 t9:=Tryz.underlying9
 a9:=Tryz.isAgg9
 z9:=Tryz.sizeOf9
 v9:=Tryz.zeroValue9
 t20:=Tryz.underlying20
 a20:=Tryz.isAgg20
 z20:=Tryz.sizeOf20
 v20:=Tryz.zeroValue20
 t21:=Tryz.underlying21
 a21:=Tryz.isAgg21
 z21:=Tryz.sizeOf21
 v21:=Tryz.zeroValue21
 t37:=Tryz.underlying119
 a37:=Tryz.isAgg119
 z37:=Tryz.sizeOf119
 v37:=Tryz.zeroValue119
 t46:=Tryz.underlying251
 a46:=Tryz.isAgg251
 z46:=Tryz.sizeOf251
 v46:=Tryz.zeroValue251
 t51:=Tryz.underlying267
 a51:=Tryz.isAgg267
 z51:=Tryz.sizeOf267
 v51:=Tryz.zeroValue267
 t53:=Tryz.underlying260
 a53:=Tryz.isAgg260
 z53:=Tryz.sizeOf260
 v53:=Tryz.zeroValue260
 t75:=Tryz.underlying203
 a75:=Tryz.isAgg203
 z75:=Tryz.sizeOf203
 v75:=Tryz.zeroValue203
 t76:=Tryz.underlying204
 a76:=Tryz.isAgg204
 z76:=Tryz.sizeOf204
 v76:=Tryz.zeroValue204
 t85:=Tryz.underlying245
 a85:=Tryz.isAgg245
 z85:=Tryz.sizeOf245
 v85:=Tryz.zeroValue245
 t127:=Tryz.underlying236
 a127:=Tryz.isAgg236
 z127:=Tryz.sizeOf236
 v127:=Tryz.zeroValue236
 t143:=Tryz.underlying273
 a143:=Tryz.isAgg273
 z143:=Tryz.sizeOf273
 v143:=Tryz.zeroValue273
 t145:=Tryz.underlying275
 a145:=Tryz.isAgg275
 z145:=Tryz.sizeOf275
 v145:=Tryz.zeroValue275
 t167:=Tryz.underlying244
 a167:=Tryz.isAgg244
 z167:=Tryz.sizeOf244
 v167:=Tryz.zeroValue244
 t168:=Tryz.underlying247
 a168:=Tryz.isAgg247
 z168:=Tryz.sizeOf247
 v168:=Tryz.zeroValue247
 t171:=Tryz.underlying276
 a171:=Tryz.isAgg276
 z171:=Tryz.sizeOf276
 v171:=Tryz.zeroValue276
 t173:=Tryz.underlying279
 a173:=Tryz.isAgg279
 z173:=Tryz.sizeOf279
 v173:=Tryz.zeroValue279
 t175:=Tryz.underlying261
 a175:=Tryz.isAgg261
 z175:=Tryz.sizeOf261
 v175:=Tryz.zeroValue261
 t210:=Tryz.underlying264
 a210:=Tryz.isAgg264
 z210:=Tryz.sizeOf264
 v210:=Tryz.zeroValue264
 t212:=Tryz.underlying285
 a212:=Tryz.isAgg285
 z212:=Tryz.sizeOf285
 v212:=Tryz.zeroValue285
 t213:=Tryz.underlying286
 a213:=Tryz.isAgg286
 z213:=Tryz.sizeOf286
 t232:=Tryz.underlying295
 a232:=Tryz.isAgg295
 z232:=Tryz.sizeOf295
 v232:=Tryz.zeroValue295
 t233:=Tryz.underlying296
 a233:=Tryz.isAgg296
 z233:=Tryz.sizeOf296
 v233:=Tryz.zeroValue296
 g15:=by kernel_rfl
 g16:=by kernel_rfl
 g17:=by kernel_rfl
 g18:=by kernel_rfl
 g19:=by kernel_rfl
 t80:=Tryz.underlying166
 a80:=Tryz.isAgg166
 z80:=Tryz.sizeOf166
 v80:=Tryz.zeroValue166
 i0:=by kernel_rfl
 i2:=by kernel_rfl
 i3:=by kernel_rfl
 i4:=by kernel_rfl
 i5:=by kernel_rfl
 i9:=by kernel_rfl
 i20:=by kernel_rfl
 i21:=by kernel_rfl
 i37:=by kernel_rfl
 i46:=by kernel_rfl
 i51:=by kernel_rfl
 i53:=by kernel_rfl
 i75:=by kernel_rfl
 i76:=by kernel_rfl
 i80:=by kernel_rfl
 i85:=by kernel_rfl
 i127:=by kernel_rfl
 i143:=by kernel_rfl
 i145:=by kernel_rfl
 i167:=by kernel_rfl
 i168:=by kernel_rfl
 i171:=by kernel_rfl
 i173:=by kernel_rfl
 i175:=by kernel_rfl
 i210:=by kernel_rfl
 i212:=by kernel_rfl
 i232:=by kernel_rfl
 i233:=by kernel_rfl
 m15:=by kernel_rfl
 m16:=by kernel_rfl
 m17:=by kernel_rfl
 m18:=by kernel_rfl
 m19:=by kernel_rfl
 c0:=by kernel_rfl
 c2:=by kernel_rfl
 c3:=by kernel_rfl
 c4:=by kernel_rfl
 c5:=by kernel_rfl
 c9:=by kernel_rfl
 c20:=by kernel_rfl
 c21:=by kernel_rfl
 c37:=by kernel_rfl
 c46:=by kernel_rfl
 c51:=by kernel_rfl
 c53:=by kernel_rfl
 c75:=by kernel_rfl
 c76:=by kernel_rfl
 c80:=by kernel_rfl
 c85:=by kernel_rfl
 c127:=by kernel_rfl
 c143:=by kernel_rfl
 c145:=by kernel_rfl
 c167:=by kernel_rfl
 c168:=by kernel_rfl
 c171:=by kernel_rfl
 c173:=by kernel_rfl
 c175:=by kernel_rfl
 c210:=by kernel_rfl
 c212:=by kernel_rfl
 c213:=by kernel_rfl
 c232:=by kernel_rfl
 c233:=by kernel_rfl }
end Go.Proofs.YteffjmaadkkmeaaGreatDoor
set_option maxRecDepth 8000
namespace Go.Proofs.YteffjmaadkkmeaaGreatDoor
open Go Go.Dv
open Go.Vc (D eb ec dK bN)
open Go.RowKit (Below)
theorem DD {w:World} {own:Nat→Prop} (h:GlW w own):∃ty lh,w.heap[3]?=some (.cells (Lib.pow10Tab.map fun z=>Value.int .u64 z).toArray ty lh):=by
 obtain⟨_,cs,ty,lh,h2,h3⟩:=h _ (List.mem_cons_self)
 exact⟨ty,lh,by rw[←h3];exact h2⟩
theorem A8 {w:World} {own:Nat→Prop} (h:GlW w own):∃m,w.cell? ⟨0,0,none⟩=some (.int .i64 m):=by
 obtain⟨_,cs,ty,lh,h2,m,h3⟩:=h _ (List.mem_cons_of_mem _ (List.mem_cons_self))
 exact⟨m,by simp only[World.cell?,h2];exact h3⟩
theorem wM (w:World) (k:Nat) (os:Array Obj):Below w.heap.size w (Go.Sort.grow (w.drewN k) os):=
 ⟨rfl,rfl,rfl,by simp [Go.Sort.grow,World.drewN],fun i hi=>by simp [Go.Sort.grow,World.drewN,Array.getElem?_append,hi]⟩
def iJ (n:Int):ByteArray:=⟨(Lib.itoa n).toArray⟩
theorem fE (u:Nat):∀k,u<10 ^ (k+1)→(Lib.decDigits u).length≤k+1:=by
 intro k
 induction k generalizing u with
 |zero=>intro h;rw[Lib.decDigits,dif_pos (by simpa using h)];simp
 |succ k ih=>
  intro h
  rw[Lib.decDigits]
  split
  ·simp
  ·have:=ih (u / 10) (by rw[Nat.pow_succ] at h;omega)
   simp only[List.length_append,List.length_singleton];omega
theorem uA {n:Int} (h0 : -9223372036854775808≤n) (h1:n≤9223372036854775807):(Lib.itoa n).length≤20:=by
 unfold Lib.itoa
 split
 ·have:=fE n.natAbs 18 (by omega)
  simp only[List.length_cons];omega
 ·have:=fE n.toNat 18 (by omega)
  omega
theorem wN {n:Int} (h0 : -9223372036854775808≤n) (h1:n≤9223372036854775807):(iJ n).size≤20:=by
 show (List.toArray _).size≤20
 simpa using uA h0 h1
theorem DE (n:Int) (h0 : -9223372036854775808≤n) (h1:n≤9223372036854775807):Cl Tryz.prog 271 [vi n] [] fun r _=>r=vs (iJ n):=
 Cl.ofVals (by kernel_rfl) [.int .i64 n] fun w hg=>by
  obtain⟨ty,lh,hp⟩:=DD hg
  refine (Any.strconv_Itoa Tryz.laysM171 n h0 h1 w ?_).mono ?_
  ·unfold Lib.TabIs World.var?
   rw[show Tryz.prog.globalNamed _=some 3 by kernel_rfl]
   simp only[Option.bind_some,hp]
  ·rintro e w' ⟨rfl,k,os,rfl⟩
   have:=wN h0 h1
   exact⟨_,rfl,by show ByteArray.size _≤maxLen;simp only[maxLen];exact Nat.le_trans this (by decide),rfl,wM w k os⟩
end Go.Proofs.YteffjmaadkkmeaaGreatDoor
set_option maxRecDepth 8000
namespace Go.Proofs.YteffjmaadkkmeaaGreatDoor
open Go Go.Dv
open Go.Vc (D eb ec dK bN)
open Go.RowKit (Below)
open Go.Vc (CellF RowF ValsF okV)
def oE:ByteArray:=⟨#[83,69,76,69,67,84,32,68,73,83,84,73,78,67,84,32,70,82,79,77,32,74,79,73,78,32,79,78,32,87,72,69,82,69,32,79,82,68,69,82,32,66,89,32,65,83,67,32,68,69,83,67,32,76,73,77,73,84,32,65,83,32,65,78,68,32,79,82,32,78,79,84,32,73,83,32,73,78,32,66,69,84,87,69,69,78,32,69,88,73,83,84,83,32,78,85,76,76,32,84,82,85,69,32,70,65,76,83,69,32,73,78,83,69,82,84,32,73,78,84,79,32,86,65,76,85,69,83,32,85,80,68,65,84,69,32,83,69,84,32,68,69,76,69,84,69]⟩
theorem yU:Lib.splitB ⟨#[32]⟩ 0 (Lib.countB oE ⟨#[32]⟩) oE=kws:=by decide +kernel
theorem yV:Lib.countB oE ⟨#[32]⟩=27:=by decide +kernel
theorem rV (w:World):∀l:List ByteArray,(∀s∈l,s.size≤maxLen)→ValsF w (l.flatMap srow) (l.map Value.string) []
 | [],_=>rfl
 |s::r,h=>⟨[],[],⟨rfl,rfl,h s (by simp)⟩,rV w r fun x hx=>h x (by simp [hx]),rfl⟩
theorem yW (w w':World) (ty:TypeId) (l:List ByteArray) (hl:l≠[]) (hs:∀s∈l,s.size≤maxLen) (hn:l.length≤maxLen) (β:Nat→Option Nat) (hw:w'.heap[w.heap.size]?=some (.cells (l.map Value.string).toArray ty (0,0))) :
 RelS Tryz.prog w' β (fun b=>w.heap.size≤b) (.c (.sl l.length (l.flatMap srow) none)) (.slice (some ⟨w.heap.size,0,none⟩) l.length l.length):=by
 have hrow:RowF w' w.heap.size 0 (l.flatMap srow) []:=(rV w' l hs).row fun j v hj=>by
  rw[cell_of_row w' w.heap.size (0+j) _ _ _ hw];simpa using hj
 refine⟨[w.heap.size],⟨some ⟨w.heap.size,0,none⟩,l.length,rfl,Nat.le_refl _,hn,(fun e=>by cases e),.inr ⟨?_,w.heap.size,0,[],rfl,hrow,rfl⟩⟩,(fun b hb=>by simp at hb;omega),(fun _ e=>by cases e)⟩
 cases l with
 |nil=>exact absurd rfl hl
 |cons s r=>simp [srow]
theorem Cj:Cl Tryz.prog 297 [vs oE,vs ⟨#[32]⟩] [] fun r _=>r = .c (.sl 28 (kws.flatMap srow) none):=
 Cl.ofNew (by kernel_rfl) [.string oE,.string ⟨#[32]⟩] fun w hg=>by
  obtain⟨m,hm⟩:=A8 hg
  refine (Any.strings_Split Tryz.lays146 (by kernel_rfl) oE ⟨#[32]⟩ m w (by decide) hm (by decide)).mono ?_
  rintro e w' ⟨rfl,rfl⟩
  rw[yU,yV]
  refine⟨_,_,rfl,rfl,by rfl,fun β=>yW w _ _ kws (by decide) (fun s hs=>Nat.le_trans (rT s hs) (by decide)) (by decide) β (Go.heap_alloc_new w _),⟨rfl,rfl,rfl,by simp,fun i hi=>Go.heap_alloc_old w _ hi⟩⟩
theorem wO:Cl Tryz.prog 278 [] [] fun r _=>r = .c (.sl 28 (kws.flatMap srow) none):=by
 refine ab aa false Tryz.func278 rfl (by kernel_rfl) ?_
 simp only[tt,seval,Tryz.f278]
 refine fc Cj ?_ ?_ ?_
 ·decide
 ·simp only[tt,seval]
  rfl
 rintro r rfl
 simp only[tt,seval]
 exact⟨_,_,rfl,ac rfl⟩
theorem pZ (s:ByteArray) (hs:s.size≤1048576):Cl Tryz.prog 234 [vs s] [] fun r _=>r=vi (nr s):=by
 refine ab aa false Tryz.func234 rfl (by kernel_rfl) ?_
 simp only[Tryz.f234,tt,seval]
 refine cZ (wO) (by decide) ?_ ?_<;>simp only[tt,seval]
 refine cZ (pI s hs) (by decide) ?_ ?_<;>simp only[tt,seval]
 refine cZ (xH kws (cM s)) (by decide) ?_ ?_<;>simp only[tt,seval,nt]
 have h1 : -1≤nq (cM s) kws∧nq (cM s) kws≤28:=by
  unfold nq
  have:=nt
  split<;>omega
 rw[ak (n:=nq (cM s) kws+1) (by omega) (by omega)]
 exact⟨_,_,rfl,ac rfl⟩
end Go.Proofs.YteffjmaadkkmeaaGreatDoor
set_option maxRecDepth 8000
namespace Go.Proofs.YteffjmaadkkmeaaGreatDoor
open Go Go.Dv
open Go.Vc (D eb ec dK bN)
theorem dM {n:Nat} {d:Option Nat} {K:K0} {f:Rg} {L:Ob} {p:Po} {k:IntKind} {s:ByteArray} {i:Nat} {l:List UInt8} (hl:l=s.data.toList) (hi:i<l.length) :
 bW Tryz.prog n d (Instr.index 9 (.string s) (.int k (i:Int))) K f L p=K (put n f d (.c (.v (.int .u8 (l[i].toNat:Int))))) L p:=by
 subst hl
 have hi':i<s.size:=by rw[←bS];exact hi
 rw[Be (by kernel_rfl) (by omega) (by omega)]
 congr 6
theorem wP (s:ByteArray):0≤nr s:=by unfold nr nq;split<;>omega
theorem jd (l:List UInt8) (b:UInt8):bU l++[D.lit (.int .u8 (b.toNat:Int))]=bU (l++[b]):=by simp [bU]
end Go.Proofs.YteffjmaadkkmeaaGreatDoor
set_option maxRecDepth 8000
namespace Go.Proofs.YteffjmaadkkmeaaGreatDoor
open Go Go.Dv
open Go.Vc (D eb ec dK bN)
open Go.RowKit (Below)
open Go.Vc (okV)
theorem data_append (a b:ByteArray):(a++b).data.toList=a.data.toList++b.data.toList:=by rw[ByteArray.data_append,Array.toList_append]
def one (c:UInt8):ByteArray:=⟨#[c]⟩
theorem oF {a b:ByteArray} (h:a.data.toList=b.data.toList):a=b:=by
 obtain⟨⟨x⟩⟩:=a;obtain⟨⟨y⟩⟩:=b
 simp only at h;rw[h]
end Go.Proofs.YteffjmaadkkmeaaGreatDoor
set_option maxRecDepth 8000
namespace Go.Proofs.YteffjmaadkkmeaaGreatDoor
open Go Go.Dv
open Go.Vc (D eb ec dK bN)
def fF (v:Val):Bool:=
 if v.kind=0 then decide (v.num=0)&&decide (v.text=⟨#[]⟩) else if v.kind=1 then decide (v.text=⟨#[]⟩)
 else if v.kind=2 then decide (v.num=0)&&decide ((v.text.size:Int)≤200) else if v.kind=3 then decide (0≤v.num∧v.num≤1)&&decide (v.text=⟨#[]⟩) else false
theorem yX (v:Val):Cl Tryz.prog 272 [.ag (an v.row)] [] fun r _=>r=vb (fF v):=by
 rw[Val.row]
 refine ab aa false Tryz.func272 rfl (by kernel_rfl) ?_
 simp only[Tryz.f272,tt,seval]
 refine And.intro (fun h0=>?_) (fun h0=>?_)
 ·refine And.intro (fun h=>?_) (fun h=>?_)<;>simp only[tt,seval]
  ·exact⟨_,_,aE (by rw[fF,if_pos h0,h];rfl),ac rfl⟩
  ·exact⟨_,_,aE (by rw[fF,if_pos h0,h];rfl),ac rfl⟩
 ·try simp only[tt,seval]
  refine And.intro (fun h1=>?_) (fun h1=>?_)
  ·exact⟨_,_,aE (by rw[fF,if_neg h0,if_pos h1]),ac rfl⟩
  ·try simp only[tt,seval]
   refine And.intro (fun h2=>?_) (fun h2=>?_)
   ·refine And.intro (fun h=>?_) (fun h=>?_)<;>simp only[tt,seval]
    ·exact fun _=>⟨_,_,aE (by rw[fF,if_neg h0,if_neg h1,if_pos h2,h];rfl),ac rfl⟩
    ·exact⟨_,_,aE (by rw[fF,if_neg h0,if_neg h1,if_pos h2,h];rfl),ac rfl⟩
   ·try simp only[tt,seval]
    refine And.intro (fun h3=>?_) (fun h3=>?_)
    ·try simp only[tt,seval]
     refine cZ (dO v.num 0 1) (by decide) ?_ ?_<;>simp only[tt,seval]
     cases hn:decide ((0:Int)≤v.num∧v.num≤1)<;>simp only[tt,seval,hn]
     ·exact⟨_,_,aE (by rw[fF,if_neg h0,if_neg h1,if_neg h2,if_pos h3,hn];rfl),ac rfl⟩
     ·exact⟨_,_,aE (by rw[fF,if_neg h0,if_neg h1,if_neg h2,if_pos h3,hn];rfl),ac rfl⟩
    ·exact⟨_,_,aE (by rw[fF,if_neg h0,if_neg h1,if_neg h2,if_neg h3]),ac rfl⟩
theorem wQ (v:Val):Cl Tryz.prog 279 [.ag (an v.row)] [] fun r _=>r=vb (fF v):=by
 rw[Val.row]
 refine ab aa false Tryz.func279 rfl (by kernel_rfl) ?_
 simp only[Tryz.f279,tt,seval]
 refine And.intro (fun h0=>?_) (fun h0=>?_)
 ·refine And.intro (fun h=>?_) (fun h=>?_)<;>simp only[tt,seval]
  ·exact⟨_,_,aE (by rw[fF,if_pos h0,h];rfl),ac rfl⟩
  ·exact⟨_,_,aE (by rw[fF,if_pos h0,h];rfl),ac rfl⟩
 ·try simp only[tt,seval]
  refine And.intro (fun h1=>?_) (fun h1=>?_)
  ·exact⟨_,_,aE (by rw[fF,if_neg h0,if_pos h1]),ac rfl⟩
  ·try simp only[tt,seval]
   refine And.intro (fun h2=>?_) (fun h2=>?_)
   ·refine And.intro (fun h=>?_) (fun h=>?_)<;>simp only[tt,seval]
    ·exact fun _=>⟨_,_,aE (by rw[fF,if_neg h0,if_neg h1,if_pos h2,h];rfl),ac rfl⟩
    ·exact⟨_,_,aE (by rw[fF,if_neg h0,if_neg h1,if_pos h2,h];rfl),ac rfl⟩
   ·try simp only[tt,seval]
    refine And.intro (fun h3=>?_) (fun h3=>?_)
    ·have fin:∀b:Bool,decide ((0:Int)≤v.num∧v.num≤1)=b→fF v=(b&&decide (v.text=⟨#[]⟩)):=fun b hb=>by rw[fF,if_neg h0,if_neg h1,if_neg h2,if_pos h3,hb]
     by_cases hz:v.num=0
     ·simp only[tt,seval,decide_eq_true hz]
      exact⟨_,_,aE (by rw[fin true (decide_eq_true (by omega))];rfl),ac rfl⟩
     ·simp only[tt,seval,decide_eq_false hz]
      by_cases ho:v.num=1
      ·simp only[tt,seval,decide_eq_true ho]
       exact⟨_,_,aE (by rw[fin true (decide_eq_true (by omega))];rfl),ac rfl⟩
      ·simp only[tt,seval,decide_eq_false ho]
       exact⟨_,_,aE (by rw[fin false (decide_eq_false (by omega))];rfl),ac rfl⟩
    ·exact⟨_,_,aE (by rw[fF,if_neg h0,if_neg h1,if_neg h2,if_neg h3]),ac rfl⟩
theorem yY (n:Int) (h0 : -9223372036854775808≤n) (h1:n≤9223372036854775807):Cl Tryz.prog 227 [vi n] [] fun r _=>r=vs (iJ n):=by
 refine ab aa false Tryz.func227 rfl (by kernel_rfl) ?_
 simp only[Tryz.f227,tt,seval]
 refine cZ (DE n h0 h1) (by decide) ?_ ?_<;>simp only[tt,seval]
 exact⟨_,_,rfl,ac rfl⟩
def sg (b:Bool) (k:Nat):Int:=if b=true then -(k:Int) else k
theorem DF (b:Bool) (k:Nat):(sg b k).tmod 10=sg b (k % 10):=by
 unfold sg;split
 ·rw[Int.neg_tmod];rfl
 ·rfl
theorem qb (b:Bool) (k:Nat):(sg b k).tdiv 10=sg b (k / 10):=by
 unfold sg;split
 ·rw[Int.neg_tdiv];rfl
 ·rfl
theorem xJ (b:Bool) (k:Nat):sg b k=0↔k=0:=by unfold sg;split<;>omega
def oG (k:Nat):UInt8:=UInt8.ofNat (48+k % 10)
theorem A9 (k:Nat):((oG k).toNat:Int)=48+(k % 10:Nat):=by
 unfold oG
 rw[UInt8.toNat_ofNat']
 omega
theorem lb {k:Nat} (h:k / 10≠0):Lib.decDigits k=Lib.decDigits (k / 10)++[oG k]:=by
 rw[Lib.decDigits,dif_neg (by omega)];rfl
theorem kT {k:Nat} (h:k / 10=0):Lib.decDigits k=[oG k]:=by
 have:k % 10=k:=by omega
 rw[Lib.decDigits,dif_pos (by omega),oG,this]
theorem Aa (n:Int) (h0 : -9223372036854775808≤n) (h1:n≤9223372036854775807):Cl Tryz.prog 163 [vi n] [] fun r _=>r=vs (iJ n):=by
 obtain⟨b,hb⟩:∃b,b=decide (n<0):=⟨_,rfl⟩
 refine ab aa false Tryz.func163 rfl (by kernel_rfl) ?_
 simp only[Tryz.f163,tt,seval]
 refine And.intro (fun hz=>?_) (fun hz=>?_)
 ·subst hz
  exact⟨_,_,wJ (show (⟨#[48]⟩:ByteArray)=iJ 0 by unfold iJ Lib.itoa;rw[if_neg (by omega),Lib.decDigits,dif_pos (by decide)];rfl),ac rfl⟩
 ·rw[←hb]
  refine dLoop.intro (fun f L p=>∃(k:Nat) (o:List UInt8),f 0=vi (sg b k)∧f 4=vs ⟨o.toArray⟩∧k≤n.natAbs∧Lib.decDigits n.natAbs=(if k=0 then o else Lib.decDigits k++o)∧L=[]∧p=none) (fun f _ _=>(bn (f 0)).natAbs) [] none ⟨SubO.nil _,PoSub.none _,?_⟩ ?_
  ·simp only[tt,seval]
   refine⟨n.natAbs,[],eX ?_,rfl,Nat.le_refl _,?_⟩
   ·rw[sg,hb];simp only[decide_eq_true_eq];split<;>omega
   ·rw[if_neg (by omega),List.append_nil]
  ·rintro g L p ⟨k,o,hk,ho,hkn,hd,rfl,rfl⟩
   simp only[tt,seval] at hk ho
   have hol:o.length≤20:=by
    have h2:=uA h0 h1
    have h3:(Lib.decDigits n.natAbs).length≤20:=fE n.natAbs 19 (by omega)
    rw[hd] at h3
    split at h3
    ·exact h3
    ·rw[List.length_append] at h3;omega
   simp only[tt,seval,hk,ho,DF,qb]
   refine And.intro (fun hne=>?_) (fun heq=>?_)
   ·have hk0:k≠0:=by
     simp only[Bool.not_eq_true',decide_eq_false_iff_not,xJ] at hne;exact hne
    have hdv:=A9 k
    refine And.intro (fun hneg=>?_) (fun hpos=>?_)
    ·have hs:sg b (k % 10) = -((k % 10:Nat):Int):=by
      unfold sg at hneg ⊢
      split at hneg
      ·rename_i h;rw[if_pos h]
      ·omega
     have hval:IntKind.u8.wrap (IntKind.i64.wrap (48+IntKind.i64.wrap (0-sg b (k % 10))))=((oG k).toNat:Int):=by
      rw[hs,ak (n:=0 - -((k % 10:Nat):Int)) (by omega) (by omega),ak (by omega) (by omega),IntWalk.u8_in _ (by omega),hdv];omega
     refine⟨by kernel_rfl,by decide,[oG k],rfl,by rw[hval];rfl,?_⟩
     simp only[tt,seval,hk,ho,qb]
     have hsz:(⟨[oG k].toArray⟩:ByteArray).size+(⟨o.toArray⟩:ByteArray).size=1+o.length:=by show (List.toArray _).size+(List.toArray _).size=_;simp
     rw[kH (by rw[hsz];omega)]
     simp only[tt,seval,hk,ho,qb]
     rw[ak (n:=sg b (k / 10)) (by rw[sg];split<;>omega) (by rw[sg];split<;>omega)]
     refine⟨[],none,SubO.nil _,PoSub.none _,⟨k / 10,oG k::o,rfl,wJ (oF (by rw[data_append];simp)),by omega,?_,rfl,rfl⟩,?_⟩
     ·rw[hd,if_neg hk0]
      split
      ·rename_i h;rw[kT h];rfl
      ·rename_i h;rw[lb h];simp
     ·simp only[bn,sg];split<;>omega
    ·have hs:sg b (k % 10)=((k % 10:Nat):Int):=by
      unfold sg at hpos ⊢
      split at hpos
      ·rename_i h;rw[if_pos h];omega
      ·rename_i h;rw[if_neg h]
     have hval:IntKind.u8.wrap (IntKind.i64.wrap (48+sg b (k % 10)))=((oG k).toNat:Int):=by
      rw[hs,ak (by omega) (by omega),IntWalk.u8_in _ (by omega),hdv]
     refine⟨by kernel_rfl,by decide,[oG k],rfl,by rw[hval];rfl,?_⟩
     simp only[tt,seval,hk,ho,qb]
     have hsz:(⟨[oG k].toArray⟩:ByteArray).size+(⟨o.toArray⟩:ByteArray).size=1+o.length:=by show (List.toArray _).size+(List.toArray _).size=_;simp
     rw[kH (by rw[hsz];omega)]
     simp only[tt,seval,hk,ho,qb]
     rw[ak (n:=sg b (k / 10)) (by rw[sg];split<;>omega) (by rw[sg];split<;>omega)]
     refine⟨[],none,SubO.nil _,PoSub.none _,⟨k / 10,oG k::o,rfl,wJ (oF (by rw[data_append];simp)),by omega,?_,rfl,rfl⟩,?_⟩
     ·rw[hd,if_neg hk0]
      split
      ·rename_i h;rw[kT h];rfl
      ·rename_i h;rw[lb h];simp
     ·simp only[bn,sg];split<;>omega
   ·have hk0:k=0:=by
     simp only[Bool.not_eq_false',decide_eq_true_eq,xJ] at heq;exact heq
    subst hk0
    rw[if_pos rfl] at hd
    refine And.intro (fun hb1=>?_) (fun hb0=>?_)
    ·have hn:n<0:=by rw[hb] at hb1;exact of_decide_eq_true hb1
     have hsz:(⟨#[45]⟩:ByteArray).size+(⟨o.toArray⟩:ByteArray).size=1+o.length:=by show 1+(List.toArray _).size=_;simp
     rw[kH (by rw[hsz];omega)]
     simp only[tt,seval]
     exact⟨_,_,wJ (oF (by rw[data_append];simp [iJ,Lib.itoa,hn,hd])),ac rfl⟩
    ·have hn:¬n<0:=by rw[hb] at hb0;exact of_decide_eq_false hb0
     have e:n.toNat=n.natAbs:=by omega
     exact⟨_,_,wJ (oF (by simp [iJ,Lib.itoa,hn,e,hd])),ac rfl⟩
end Go.Proofs.YteffjmaadkkmeaaGreatDoor
set_option maxRecDepth 8000
namespace Go.Proofs.YteffjmaadkkmeaaGreatDoor
open Go Go.Dv
open Go.Vc (D eb ec dK bN)
open Go.Lib in
theorem mN:∀(l:List UInt8) (acc m:Nat),decFrom acc l=some m→acc≤m
 | [],acc,m,h=>by simp only[decFrom,Option.some.injEq] at h;omega
 |b::r,acc,m,h=>by
  simp only[decFrom] at h
  split at h
  ·have:=mN r _ m h;omega
  ·cases h
open Go.Lib in
theorem rX:∀(l:List UInt8) (acc m:Nat),decFrom acc l=some m→m<18446744073709551616→parseUint10 acc l = .ok m
 | [],acc,m,h,_=>by simp only[decFrom,Option.some.injEq] at h;subst h;rfl
 |b::r,acc,m,h,hm=>by
  simp only[decFrom,digitVal] at h
  split at h
  ·rename_i d hd
   split at hd
   ·rename_i hb
    injection hd with hd
    have:=mN r _ m h
    simp only[parseUint10,if_pos hb]
    rw[if_neg (by omega),if_neg (by omega),hd]
    exact rX r _ m h hm
   ·cases hd
  ·cases h
open Go.Lib in
theorem io:∀(l:List UInt8) (acc:Nat) (b:UInt8),decFrom acc (l++[b])=match decFrom acc l,digitVal b with|some n,some d=>some (n*10+d)|_,_=>none
 | [],acc,b=>by simp only[List.nil_append,decFrom];cases digitVal b<;>rfl
 |c::r,acc,b=>by
  simp only[List.cons_append,decFrom]
  cases digitVal c with
  |none=>rfl
  |some d=>exact io r _ b
open Go.Lib in
theorem tl {l:List UInt8} {i:Nat} {b:UInt8} (hb:l[i]?=some b) (hd:digitVal b=none):∀acc,decFrom acc l=none:=by
 induction l generalizing i with
 |nil=>simp at hb
 |cons c r ih=>
  intro acc
  simp only[decFrom]
  cases i with
  |zero=>simp only[List.getElem?_cons_zero,Option.some.injEq] at hb;subst hb;rw[hd]
  |succ i=>
   cases digitVal c with
   |none=>rfl
   |some d=>exact ih (by simpa using hb) _
open Go.Lib in
theorem pd {d:Nat} (h:d<10):digitVal (UInt8.ofNat (48+d))=some d:=by
 have e:(UInt8.ofNat (48+d)).toNat=48+d:=by simp;omega
 unfold digitVal
 rw[e,if_pos (by omega)]
 congr 1;omega
open Go.Lib in
theorem iK (u:Nat):decFrom 0 (decDigits u)=some u:=by
 induction u using Nat.strongRecOn with
 |ind u ih=>
  rw[decDigits]
  split
  ·rename_i h
   have:=io [] 0 (UInt8.ofNat (48+u))
   rw[pd h] at this
   simpa [decFrom] using this
  ·rename_i h
   rw[io,ih (u / 10) (by omega),pd (by omega)]
   simp only[Option.some.injEq];omega
open Go.Lib in
theorem ld (u:Nat):∃b r,decDigits u=b::r∧48≤b.toNat∧b.toNat≤57:=by
 induction u using Nat.strongRecOn with
 |ind u ih=>
  rw[decDigits]
  split
  ·rename_i h
   exact⟨_,[],rfl,by simp;omega,by simp;omega⟩
  ·rename_i h
   obtain⟨b,r,h1,h2⟩:=ih (u / 10) (by omega)
   rw[h1]
   exact⟨b,_,rfl,h2⟩
open Go.Lib in
def jy (l:List UInt8):Option Nat:=match decFrom 0 l with
 |some m=>if m<9223372036854775808∧decDigits m=l then some m else none
 |none=>none
open Go.Lib in
theorem fP {l:List UInt8} {m:Nat}:jy l=some m↔m<9223372036854775808∧decDigits m=l:=by
 unfold jy
 constructor
 ·intro h
  split at h
  ·split at h
   ·rename_i hc;injection h with h;subst h;exact hc
   ·cases h
  ·cases h
 ·rintro⟨h1,rfl⟩
  rw[iK]
  simp [h1]
open Go.Lib in
theorem qc (m:Nat):itoa (m:Int)=decDigits m:=by
 unfold itoa
 rw[if_neg (by omega)];rfl
open Go.Lib in
theorem oH {l:List UInt8} {m:Nat} (h:jy l=some m):atoiAll l = .ok (m:Int):=by
 obtain⟨h1,rfl⟩:=fP.1 h
 obtain⟨b,r,hb,h2,h3⟩:=ld m
 have hd:=iK m
 rw[hb] at hd ⊢
 rw[atoiAll_plain b r (by omega) (by omega)]
 unfold parseMag
 rw[if_neg (by simp),rX _ _ _ hd (by omega)]
 simp only[signless]
 rw[if_neg (by omega)]
open Go.Lib in
theorem yZ {l:List UInt8} {v:Int} (h:atoiAll l = .ok v) (h0:0≤v) (hi:itoa v=l):jy l=some v.toNat:=by
 have hb:=atoiAll_bounds h
 refine fP.2 ⟨by omega,?_⟩
 rw[←hi]
 unfold itoa
 rw[if_neg (by omega)]
end Go.Proofs.YteffjmaadkkmeaaGreatDoor
set_option maxRecDepth 8000
namespace Go.Proofs.YteffjmaadkkmeaaGreatDoor
open Go Go.Dv
open Go.Vc (D eb ec dK bN)
abbrev irow (n:Int):List D:=[int n]
mutual
inductive Expr where
 |mk (kind:Int) (op:Int) (not:Bool) (val:Val) (qual:ByteArray) (name:ByteArray) (kids:List Expr) (sub:List Query)
inductive Item where
 |mk (star:Bool) (qual:ByteArray) (e:Expr) (as_:ByteArray)
inductive Source where
 |mk (table:ByteArray) (as_:ByteArray) (on:List Expr)
inductive SortKey where
 |mk (e:Expr) (desc:Bool)
inductive Query where
 |mk (distinct:Bool) (items:List Item) (from_:List Source) (where_:List Expr) (order:List SortKey) (limit:Int)
end
mutual
def Expr.row:Expr→List D
 |.mk kind op not val qual name kids sub=>int kind::int op::bool not::int val.kind::int val.num::str val.text::str qual::str name :: .sl kids.length (iM kids) :: .sl sub.length (jO sub)::[]
def Item.row:Item→List D
 |.mk star qual e as_=>bool star::str qual::(e.row++str as_::[])
def Source.row:Source→List D
 |.mk table as_ on=>str table::str as_ :: .sl on.length (iM on)::[]
def SortKey.row:SortKey→List D
 |.mk e desc=>(e.row++bool desc::[])
def Query.row:Query→List D
 |.mk distinct items from_ where_ order limit=>bool distinct :: .sl items.length (le items) :: .sl from_.length (iN from_) :: .sl where_.length (iM where_) :: .sl order.length (gR order)::int limit::[]
def iM:List Expr→List D
 | []=>[]
 |x::r=>x.row++iM r
def le:List Item→List D
 | []=>[]
 |x::r=>x.row++le r
def jO:List Query→List D
 | []=>[]
 |x::r=>x.row++jO r
def gR:List SortKey→List D
 | []=>[]
 |x::r=>x.row++gR r
def iN:List Source→List D
 | []=>[]
 |x::r=>x.row++iN r
end
theorem je:∀l:List Expr,iM l=l.flatMap Expr.row
 | []=>by rw[iM,List.flatMap_nil]
 |x::r=>by rw[iM,List.flatMap_cons,je r]
theorem pe:∀l:List Item,le l=l.flatMap Item.row
 | []=>by rw[le,List.flatMap_nil]
 |x::r=>by rw[le,List.flatMap_cons,pe r]
theorem nu:∀l:List Query,jO l=l.flatMap Query.row
 | []=>by rw[jO,List.flatMap_nil]
 |x::r=>by rw[jO,List.flatMap_cons,nu r]
theorem lf:∀l:List SortKey,gR l=l.flatMap SortKey.row
 | []=>by rw[gR,List.flatMap_nil]
 |x::r=>by rw[gR,List.flatMap_cons,lf r]
theorem my:∀l:List Source,iN l=l.flatMap Source.row
 | []=>by rw[iN,List.flatMap_nil]
 |x::r=>by rw[iN,List.flatMap_cons,my r]
theorem Expr.row_mk (kind:Int) (op:Int) (not:Bool) (val:Val) (qual:ByteArray) (name:ByteArray) (kids:List Expr) (sub:List Query):(Expr.mk kind op not val qual name kids sub).row=int kind::int op::bool not::int val.kind::int val.num::str val.text::str qual::str name :: .sl kids.length (kids.flatMap Expr.row) :: .sl sub.length (sub.flatMap Query.row)::[]:=by rw[Expr.row,je,nu]
theorem Item.row_mk (star:Bool) (qual:ByteArray) (e:Expr) (as_:ByteArray):(Item.mk star qual e as_).row=bool star::str qual::(e.row++str as_::[]):=by rw[Item.row]
theorem Source.row_mk (table:ByteArray) (as_:ByteArray) (on:List Expr):(Source.mk table as_ on).row=str table::str as_ :: .sl on.length (on.flatMap Expr.row)::[]:=by rw[Source.row,je]
theorem SortKey.row_mk (e:Expr) (desc:Bool):(SortKey.mk e desc).row=(e.row++bool desc::[]):=by rw[SortKey.row]
theorem Query.row_mk (distinct:Bool) (items:List Item) (from_:List Source) (where_:List Expr) (order:List SortKey) (limit:Int):(Query.mk distinct items from_ where_ order limit).row=bool distinct :: .sl items.length (items.flatMap Item.row) :: .sl from_.length (from_.flatMap Source.row) :: .sl where_.length (where_.flatMap Expr.row) :: .sl order.length (order.flatMap SortKey.row)::int limit::[]:=by rw[Query.row,je,pe,lf,my]
theorem Expr.row_len (x:Expr):x.row.length=10:=by cases x;simp [Expr.row]
theorem Expr.tk (x:Expr) (r:List D):eA 10 (x.row++r)=some x.row:=eS (Expr.row_len x)
theorem Expr.ne (x:Expr) (r:List D):x.row++r≠[]:=fun h=>by have:=congrArg List.length h;simp [Expr.row_len] at this
theorem Source.row_len (x:Source):x.row.length=3:=by cases x;simp [Source.row]
theorem Source.tk (x:Source) (r:List D):eA 3 (x.row++r)=some x.row:=eS (Source.row_len x)
theorem Source.ne (x:Source) (r:List D):x.row++r≠[]:=fun h=>by have:=congrArg List.length h;simp [Source.row_len] at this
theorem Query.row_len (x:Query):x.row.length=6:=by cases x;simp [Query.row]
theorem Query.tk (x:Query) (r:List D):eA 6 (x.row++r)=some x.row:=eS (Query.row_len x)
theorem Query.ne (x:Query) (r:List D):x.row++r≠[]:=fun h=>by have:=congrArg List.length h;simp [Query.row_len] at this
theorem Item.row_len (x:Item):x.row.length=13:=by cases x;simp [Item.row,Expr.row_len]
theorem Item.tk (x:Item) (r:List D):eA 13 (x.row++r)=some x.row:=eS (Item.row_len x)
theorem Item.ne (x:Item) (r:List D):x.row++r≠[]:=fun h=>by have:=congrArg List.length h;simp [Item.row_len] at this
theorem SortKey.row_len (x:SortKey):x.row.length=11:=by cases x;simp [SortKey.row,Expr.row_len]
theorem SortKey.tk (x:SortKey) (r:List D):eA 11 (x.row++r)=some x.row:=eS (SortKey.row_len x)
theorem SortKey.ne (x:SortKey) (r:List D):x.row++r≠[]:=fun h=>by have:=congrArg List.length h;simp [SortKey.row_len] at this
mutual
def av:Expr→Nat
 |.mk kind op not val qual name kids sub=>Dp val+(qual.size+(name.size+(dL kids+(iO sub))))
def kr:Item→Nat
 |.mk star qual e as_=>qual.size+(av e+(as_.size))
def dm:Source→Nat
 |.mk table as_ on=>table.size+(as_.size+(dL on))
def fk:SortKey→Nat
 |.mk e desc=>av e
def aW:Query→Nat
 |.mk distinct items from_ where_ order limit=>jg items+(er from_+(dL where_+(eZ order)))
def dL:List Expr→Nat
 | []=>0
 |x::r=>av x+1+dL r
def jg:List Item→Nat
 | []=>0
 |x::r=>kr x+1+jg r
def iO:List Query→Nat
 | []=>0
 |x::r=>aW x+1+iO r
def eZ:List SortKey→Nat
 | []=>0
 |x::r=>fk x+1+eZ r
def er:List Source→Nat
 | []=>0
 |x::r=>dm x+1+er r
end
theorem aC:∀l:List Expr,dL l=l.length+(l.map av).sum
 | []=>by rw[dL];rfl
 |x::r=>by rw[dL,aC r,List.length_cons,List.map_cons,List.sum_cons];omega
theorem f4:∀l:List Item,jg l=l.length+(l.map kr).sum
 | []=>by rw[jg];rfl
 |x::r=>by rw[jg,f4 r,List.length_cons,List.map_cons,List.sum_cons];omega
theorem d8:∀l:List Query,iO l=l.length+(l.map aW).sum
 | []=>by rw[iO];rfl
 |x::r=>by rw[iO,d8 r,List.length_cons,List.map_cons,List.sum_cons];omega
theorem dx:∀l:List SortKey,eZ l=l.length+(l.map fk).sum
 | []=>by rw[eZ];rfl
 |x::r=>by rw[eZ,dx r,List.length_cons,List.map_cons,List.sum_cons];omega
theorem eJ:∀l:List Source,er l=l.length+(l.map dm).sum
 | []=>by rw[er];rfl
 |x::r=>by rw[er,eJ r,List.length_cons,List.map_cons,List.sum_cons];omega
theorem et (kind:Int) (op:Int) (not:Bool) (val:Val) (qual:ByteArray) (name:ByteArray) (kids:List Expr) (sub:List Query):av (.mk kind op not val qual name kids sub)=Dp val+(qual.size+(name.size+(dL kids+(iO sub)))):=by rw[av]
theorem oI (star:Bool) (qual:ByteArray) (e:Expr) (as_:ByteArray):kr (.mk star qual e as_)=qual.size+(av e+(as_.size)):=by rw[kr]
theorem eG (table:ByteArray) (as_:ByteArray) (on:List Expr):dm (.mk table as_ on)=table.size+(as_.size+(dL on)):=by rw[dm]
theorem aH (e:Expr) (desc:Bool):fk (.mk e desc)=av e:=by rw[fk]
theorem f5 (distinct:Bool) (items:List Item) (from_:List Source) (where_:List Expr) (order:List SortKey) (limit:Int):aW (.mk distinct items from_ where_ order limit)=jg items+(er from_+(dL where_+(eZ order))):=by rw[aW]
theorem Expr.ind {PExpr:Expr→Prop} {PItem:Item→Prop} {PSource:Source→Prop} {PSortKey:SortKey→Prop} {PQuery:Query→Prop}
 (hExpr:∀kind op not val qual name kids sub,(∀x∈kids,PExpr x)→(∀x∈sub,PQuery x)→PExpr (.mk kind op not val qual name kids sub))
 (hItem:∀star qual e as_,PExpr e→PItem (.mk star qual e as_))
 (hSource:∀table as_ on,(∀x∈on,PExpr x)→PSource (.mk table as_ on))
 (hSortKey:∀e desc,PExpr e→PSortKey (.mk e desc))
 (hQuery:∀distinct items from_ where_ order limit,(∀x∈items,PItem x)→(∀x∈from_,PSource x)→(∀x∈where_,PExpr x)→(∀x∈order,PSortKey x)→PQuery (.mk distinct items from_ where_ order limit)):(∀x,PExpr x)∧(∀x,PItem x)∧(∀x,PSource x)∧(∀x,PSortKey x)∧(∀x,PQuery x):=by
 suffices H:∀n:Nat,(∀x:Expr,SizeOf.sizeOf x<n→PExpr x)∧(∀x:Item,SizeOf.sizeOf x<n→PItem x)∧(∀x:Source,SizeOf.sizeOf x<n→PSource x)∧(∀x:SortKey,SizeOf.sizeOf x<n→PSortKey x)∧(∀x:Query,SizeOf.sizeOf x<n→PQuery x) from
  ⟨fun x=>(H _).1 x (Nat.lt_succ_self _),fun x=>(H _).2.1 x (Nat.lt_succ_self _),fun x=>(H _).2.2.1 x (Nat.lt_succ_self _),fun x=>(H _).2.2.2.1 x (Nat.lt_succ_self _),fun x=>(H _).2.2.2.2 x (Nat.lt_succ_self _)⟩
 intro n
 induction n with
 |zero=>exact⟨fun _ h=>absurd h (Nat.not_lt_zero _),fun _ h=>absurd h (Nat.not_lt_zero _),fun _ h=>absurd h (Nat.not_lt_zero _),fun _ h=>absurd h (Nat.not_lt_zero _),fun _ h=>absurd h (Nat.not_lt_zero _)⟩
 |succ n ih=>
  obtain⟨ihExpr,ihItem,ihSource,ihSortKey,ihQuery⟩:=ih
  refine⟨?_,?_,?_,?_,?_⟩
  ·rintro⟨kind,op,not,val,qual,name,kids,sub⟩ h
   simp only[Expr.mk.sizeOf_spec] at h
   exact hExpr _ _ _ _ _ _ _ _ (fun y hy=>ihExpr y (by have:=List.sizeOf_lt_of_mem hy;omega)) (fun y hy=>ihQuery y (by have:=List.sizeOf_lt_of_mem hy;omega))
  ·rintro⟨star,qual,e,as_⟩ h
   simp only[Item.mk.sizeOf_spec] at h
   exact hItem _ _ _ _ (ihExpr _ (by omega))
  ·rintro⟨table,as_,on⟩ h
   simp only[Source.mk.sizeOf_spec] at h
   exact hSource _ _ _ (fun y hy=>ihExpr y (by have:=List.sizeOf_lt_of_mem hy;omega))
  ·rintro⟨e,desc⟩ h
   simp only[SortKey.mk.sizeOf_spec] at h
   exact hSortKey _ _ (ihExpr _ (by omega))
  ·rintro⟨distinct,items,from_,where_,order,limit⟩ h
   simp only[Query.mk.sizeOf_spec] at h
   exact hQuery _ _ _ _ _ _ (fun y hy=>ihItem y (by have:=List.sizeOf_lt_of_mem hy;omega)) (fun y hy=>ihSource y (by have:=List.sizeOf_lt_of_mem hy;omega)) (fun y hy=>ihExpr y (by have:=List.sizeOf_lt_of_mem hy;omega)) (fun y hy=>ihSortKey y (by have:=List.sizeOf_lt_of_mem hy;omega))
theorem ip (a:List Expr) (hx:∀x∈a,Cl Tryz.prog 14 [.ag (an x.row),.ag (an x.row)] [] fun r _=>r=vb true):Cl Tryz.prog 45 [.c (.sl a.length (a.flatMap Expr.row) none),.c (.sl a.length (a.flatMap Expr.row) none)] [] fun r _=>r=vb true:=by
 refine ab aa false Tryz.func45 rfl (by kernel_rfl) ?_
 simp only[Tryz.f45,tt,seval]
 refine fun _ _=>?_
 refine dLoop.intro (fun f L p=>∃i:Nat,f 5=vi i∧i≤a.length∧L=[]∧p=none) (fun f _ _=>(a.length-bn (f 5)).toNat) [] none ⟨SubO.nil _,PoSub.none _,?_⟩ ?_
 ·simp only[tt,seval]
  exact⟨0,rfl,by omega⟩
 ·rintro g L p ⟨i,h5,hi,rfl,rfl⟩
  simp only[tt,seval] at h5
  simp only[tt,seval,h5,Int.ofNat_lt]
  refine fun _=>And.intro (fun hlt=>?_) (fun hge=>?_)
  ·have hlt:i<a.length:=by omega
   refine dDrawn.intro [] (gG [0,2,4,6,8,10,12,14,17,18]) (by kernel_rfl) ?_
   simp only[tt,seval]
   simp only[tt,seval,h5]
   refine⟨by omega,by omega,_,ax Expr.row_len (List.getElem?_eq_getElem hlt),Expr.ne _ _,?_⟩
   simp only[tt,seval,h5,Expr.tk,Expr.row_len]
   refine⟨by omega,by omega,_,ax Expr.row_len (List.getElem?_eq_getElem hlt),Expr.ne _ _,?_⟩
   simp only[tt,seval,h5,Expr.tk,Expr.row_len]
   refine fc (hx a[i] (List.getElem_mem hlt)) ?_ ?_ ?_
   ·decide
   ·simp only[tt,seval]
   rintro r rfl
   simp only[tt,seval,h5]
   rw[eE i (by omega)]
   exact⟨[],none,SubO.nil _,PoSub.none _,⟨i+1,rfl,by omega,rfl,rfl⟩,by simp only[bn];omega⟩
  ·exact⟨_,_,rfl,ac rfl⟩
theorem tm (a:List Item) (hx:∀x∈a,Cl Tryz.prog 109 [.ag (an x.row),.ag (an x.row)] [] fun r _=>r=vb true):Cl Tryz.prog 55 [.c (.sl a.length (a.flatMap Item.row) none),.c (.sl a.length (a.flatMap Item.row) none)] [] fun r _=>r=vb true:=by
 refine ab aa false Tryz.func55 rfl (by kernel_rfl) ?_
 simp only[Tryz.f55,tt,seval]
 refine fun _ _=>?_
 refine dLoop.intro (fun f L p=>∃i:Nat,f 5=vi i∧i≤a.length∧L=[]∧p=none) (fun f _ _=>(a.length-bn (f 5)).toNat) [] none ⟨SubO.nil _,PoSub.none _,?_⟩ ?_
 ·simp only[tt,seval]
  exact⟨0,rfl,by omega⟩
 ·rintro g L p ⟨i,h5,hi,rfl,rfl⟩
  simp only[tt,seval] at h5
  simp only[tt,seval,h5,Int.ofNat_lt]
  refine fun _=>And.intro (fun hlt=>?_) (fun hge=>?_)
  ·have hlt:i<a.length:=by omega
   refine dDrawn.intro [] (gG [0,2,4,6,8,10,12,14,17,18]) (by kernel_rfl) ?_
   simp only[tt,seval]
   simp only[tt,seval,h5]
   refine⟨by omega,by omega,_,ax Item.row_len (List.getElem?_eq_getElem hlt),Item.ne _ _,?_⟩
   simp only[tt,seval,h5,Item.tk,Item.row_len]
   refine⟨by omega,by omega,_,ax Item.row_len (List.getElem?_eq_getElem hlt),Item.ne _ _,?_⟩
   simp only[tt,seval,h5,Item.tk,Item.row_len]
   refine fc (hx a[i] (List.getElem_mem hlt)) ?_ ?_ ?_
   ·decide
   ·simp only[tt,seval]
   rintro r rfl
   simp only[tt,seval,h5]
   rw[eE i (by omega)]
   exact⟨[],none,SubO.nil _,PoSub.none _,⟨i+1,rfl,by omega,rfl,rfl⟩,by simp only[bn];omega⟩
  ·exact⟨_,_,rfl,ac rfl⟩
theorem qd (a:List Source) (hx:∀x∈a,Cl Tryz.prog 110 [.ag (an x.row),.ag (an x.row)] [] fun r _=>r=vb true):Cl Tryz.prog 56 [.c (.sl a.length (a.flatMap Source.row) none),.c (.sl a.length (a.flatMap Source.row) none)] [] fun r _=>r=vb true:=by
 refine ab aa false Tryz.func56 rfl (by kernel_rfl) ?_
 simp only[Tryz.f56,tt,seval]
 refine fun _ _=>?_
 refine dLoop.intro (fun f L p=>∃i:Nat,f 5=vi i∧i≤a.length∧L=[]∧p=none) (fun f _ _=>(a.length-bn (f 5)).toNat) [] none ⟨SubO.nil _,PoSub.none _,?_⟩ ?_
 ·simp only[tt,seval]
  exact⟨0,rfl,by omega⟩
 ·rintro g L p ⟨i,h5,hi,rfl,rfl⟩
  simp only[tt,seval] at h5
  simp only[tt,seval,h5,Int.ofNat_lt]
  refine fun _=>And.intro (fun hlt=>?_) (fun hge=>?_)
  ·have hlt:i<a.length:=by omega
   refine dDrawn.intro [] (gG [0,2,4,6,8,10,12,14,17,18]) (by kernel_rfl) ?_
   simp only[tt,seval]
   simp only[tt,seval,h5]
   refine⟨by omega,by omega,_,ax Source.row_len (List.getElem?_eq_getElem hlt),Source.ne _ _,?_⟩
   simp only[tt,seval,h5,Source.tk,Source.row_len]
   refine⟨by omega,by omega,_,ax Source.row_len (List.getElem?_eq_getElem hlt),Source.ne _ _,?_⟩
   simp only[tt,seval,h5,Source.tk,Source.row_len]
   refine fc (hx a[i] (List.getElem_mem hlt)) ?_ ?_ ?_
   ·decide
   ·simp only[tt,seval]
   rintro r rfl
   simp only[tt,seval,h5]
   rw[eE i (by omega)]
   exact⟨[],none,SubO.nil _,PoSub.none _,⟨i+1,rfl,by omega,rfl,rfl⟩,by simp only[bn];omega⟩
  ·exact⟨_,_,rfl,ac rfl⟩
theorem py (a:List SortKey) (hx:∀x∈a,Cl Tryz.prog 111 [.ag (an x.row),.ag (an x.row)] [] fun r _=>r=vb true):Cl Tryz.prog 57 [.c (.sl a.length (a.flatMap SortKey.row) none),.c (.sl a.length (a.flatMap SortKey.row) none)] [] fun r _=>r=vb true:=by
 refine ab aa false Tryz.func57 rfl (by kernel_rfl) ?_
 simp only[Tryz.f57,tt,seval]
 refine fun _ _=>?_
 refine dLoop.intro (fun f L p=>∃i:Nat,f 5=vi i∧i≤a.length∧L=[]∧p=none) (fun f _ _=>(a.length-bn (f 5)).toNat) [] none ⟨SubO.nil _,PoSub.none _,?_⟩ ?_
 ·simp only[tt,seval]
  exact⟨0,rfl,by omega⟩
 ·rintro g L p ⟨i,h5,hi,rfl,rfl⟩
  simp only[tt,seval] at h5
  simp only[tt,seval,h5,Int.ofNat_lt]
  refine fun _=>And.intro (fun hlt=>?_) (fun hge=>?_)
  ·have hlt:i<a.length:=by omega
   refine dDrawn.intro [] (gG [0,2,4,6,8,10,12,14,17,18]) (by kernel_rfl) ?_
   simp only[tt,seval]
   simp only[tt,seval,h5]
   refine⟨by omega,by omega,_,ax SortKey.row_len (List.getElem?_eq_getElem hlt),SortKey.ne _ _,?_⟩
   simp only[tt,seval,h5,SortKey.tk,SortKey.row_len]
   refine⟨by omega,by omega,_,ax SortKey.row_len (List.getElem?_eq_getElem hlt),SortKey.ne _ _,?_⟩
   simp only[tt,seval,h5,SortKey.tk,SortKey.row_len]
   refine fc (hx a[i] (List.getElem_mem hlt)) ?_ ?_ ?_
   ·decide
   ·simp only[tt,seval]
   rintro r rfl
   simp only[tt,seval,h5]
   rw[eE i (by omega)]
   exact⟨[],none,SubO.nil _,PoSub.none _,⟨i+1,rfl,by omega,rfl,rfl⟩,by simp only[bn];omega⟩
  ·exact⟨_,_,rfl,ac rfl⟩
theorem rl (a:List Query) (hx:∀x∈a,Cl Tryz.prog 21 [.ag (an x.row),.ag (an x.row)] [] fun r _=>r=vb true):Cl Tryz.prog 46 [.c (.sl a.length (a.flatMap Query.row) none),.c (.sl a.length (a.flatMap Query.row) none)] [] fun r _=>r=vb true:=by
 refine ab aa false Tryz.func46 rfl (by kernel_rfl) ?_
 simp only[Tryz.f46,tt,seval]
 refine fun _ _=>?_
 refine dLoop.intro (fun f L p=>∃i:Nat,f 5=vi i∧i≤a.length∧L=[]∧p=none) (fun f _ _=>(a.length-bn (f 5)).toNat) [] none ⟨SubO.nil _,PoSub.none _,?_⟩ ?_
 ·simp only[tt,seval]
  exact⟨0,rfl,by omega⟩
 ·rintro g L p ⟨i,h5,hi,rfl,rfl⟩
  simp only[tt,seval] at h5
  simp only[tt,seval,h5,Int.ofNat_lt]
  refine fun _=>And.intro (fun hlt=>?_) (fun hge=>?_)
  ·have hlt:i<a.length:=by omega
   refine dDrawn.intro [] (gG [0,2,4,6,8,10,12,14,17,18]) (by kernel_rfl) ?_
   simp only[tt,seval]
   simp only[tt,seval,h5]
   refine⟨by omega,by omega,_,ax Query.row_len (List.getElem?_eq_getElem hlt),Query.ne _ _,?_⟩
   simp only[tt,seval,h5,Query.tk,Query.row_len]
   refine⟨by omega,by omega,_,ax Query.row_len (List.getElem?_eq_getElem hlt),Query.ne _ _,?_⟩
   simp only[tt,seval,h5,Query.tk,Query.row_len]
   refine fc (hx a[i] (List.getElem_mem hlt)) ?_ ?_ ?_
   ·decide
   ·simp only[tt,seval]
   rintro r rfl
   simp only[tt,seval,h5]
   rw[eE i (by omega)]
   exact⟨[],none,SubO.nil _,PoSub.none _,⟨i+1,rfl,by omega,rfl,rfl⟩,by simp only[bn];omega⟩
  ·exact⟨_,_,rfl,ac rfl⟩
theorem uB (kind:Int) (op:Int) (not:Bool) (val:Val) (qual:ByteArray) (name:ByteArray) (kids:List Expr) (sub:List Query) (hkids:Cl Tryz.prog 45 [.c (.sl kids.length (kids.flatMap Expr.row) none),.c (.sl kids.length (kids.flatMap Expr.row) none)] [] fun r _=>r=vb true) (hsub:Cl Tryz.prog 46 [.c (.sl sub.length (sub.flatMap Query.row) none),.c (.sl sub.length (sub.flatMap Query.row) none)] [] fun r _=>r=vb true):Cl Tryz.prog 14 [.ag (an (Expr.mk kind op not val qual name kids sub).row),.ag (an (Expr.mk kind op not val qual name kids sub).row)] [] fun r _=>r=vb true:=by
 rw[Expr.row_mk]
 refine ab aa false Tryz.func14 rfl (by kernel_rfl) ?_
 simp only[Tryz.f14,tt,seval]
 refine cZ (yS val) (by decide) ?_ ?_<;>simp only[tt,seval,Val.row,lc]
 refine cZ (hkids) (by decide) ?_ ?_<;>simp only[tt,seval,Val.row,lc]
 refine cZ (hsub) (by decide) ?_ ?_<;>simp only[tt,seval,Val.row,lc]
 exact⟨_,_,rfl,ac rfl⟩
theorem uC (star:Bool) (qual:ByteArray) (e:Expr) (as_:ByteArray) (he:Cl Tryz.prog 14 [.ag (an e.row),.ag (an e.row)] [] fun r _=>r=vb true):Cl Tryz.prog 109 [.ag (an (Item.mk star qual e as_).row),.ag (an (Item.mk star qual e as_).row)] [] fun r _=>r=vb true:=by
 rw[Item.row_mk]
 obtain⟨e_kind,e_op,e_not,e_val,e_qual,e_name,e_kids,e_sub⟩:=e
 simp only[Expr.row_mk,lc]
 refine ab aa false Tryz.func109 rfl (by kernel_rfl) ?_
 simp only[Tryz.f109,tt,seval]
 refine cZ (he) (by decide) ?_ ?_<;>simp only[tt,seval,Val.row,lc,Expr.row_mk]
 exact⟨_,_,rfl,ac rfl⟩
theorem rn (table:ByteArray) (as_:ByteArray) (on:List Expr) (hon:Cl Tryz.prog 45 [.c (.sl on.length (on.flatMap Expr.row) none),.c (.sl on.length (on.flatMap Expr.row) none)] [] fun r _=>r=vb true):Cl Tryz.prog 110 [.ag (an (Source.mk table as_ on).row),.ag (an (Source.mk table as_ on).row)] [] fun r _=>r=vb true:=by
 rw[Source.row_mk]
 refine ab aa false Tryz.func110 rfl (by kernel_rfl) ?_
 simp only[Tryz.f110,tt,seval]
 refine cZ (hon) (by decide) ?_ ?_<;>simp only[tt,seval,Val.row,lc]
 exact⟨_,_,rfl,ac rfl⟩
theorem qe (e:Expr) (desc:Bool) (he:Cl Tryz.prog 14 [.ag (an e.row),.ag (an e.row)] [] fun r _=>r=vb true):Cl Tryz.prog 111 [.ag (an (SortKey.mk e desc).row),.ag (an (SortKey.mk e desc).row)] [] fun r _=>r=vb true:=by
 rw[SortKey.row_mk]
 obtain⟨e_kind,e_op,e_not,e_val,e_qual,e_name,e_kids,e_sub⟩:=e
 simp only[Expr.row_mk,lc]
 refine ab aa false Tryz.func111 rfl (by kernel_rfl) ?_
 simp only[Tryz.f111,tt,seval]
 refine cZ (he) (by decide) ?_ ?_<;>simp only[tt,seval,Val.row,lc,Expr.row_mk]
 exact⟨_,_,rfl,ac rfl⟩
theorem tn (distinct:Bool) (items:List Item) (from_:List Source) (where_:List Expr) (order:List SortKey) (limit:Int) (hitems:Cl Tryz.prog 55 [.c (.sl items.length (items.flatMap Item.row) none),.c (.sl items.length (items.flatMap Item.row) none)] [] fun r _=>r=vb true) (hfrom_:Cl Tryz.prog 56 [.c (.sl from_.length (from_.flatMap Source.row) none),.c (.sl from_.length (from_.flatMap Source.row) none)] [] fun r _=>r=vb true) (hwhere_:Cl Tryz.prog 45 [.c (.sl where_.length (where_.flatMap Expr.row) none),.c (.sl where_.length (where_.flatMap Expr.row) none)] [] fun r _=>r=vb true) (horder:Cl Tryz.prog 57 [.c (.sl order.length (order.flatMap SortKey.row) none),.c (.sl order.length (order.flatMap SortKey.row) none)] [] fun r _=>r=vb true):Cl Tryz.prog 21 [.ag (an (Query.mk distinct items from_ where_ order limit).row),.ag (an (Query.mk distinct items from_ where_ order limit).row)] [] fun r _=>r=vb true:=by
 rw[Query.row_mk]
 refine ab aa false Tryz.func21 rfl (by kernel_rfl) ?_
 simp only[Tryz.f21,tt,seval]
 refine cZ (hitems) (by decide) ?_ ?_<;>simp only[tt,seval,Val.row,lc]
 refine cZ (hfrom_) (by decide) ?_ ?_<;>simp only[tt,seval,Val.row,lc]
 refine cZ (hwhere_) (by decide) ?_ ?_<;>simp only[tt,seval,Val.row,lc]
 refine cZ (horder) (by decide) ?_ ?_<;>simp only[tt,seval,Val.row,lc]
 exact⟨_,_,rfl,ac rfl⟩
theorem qf:(∀a:Expr,Cl Tryz.prog 14 [.ag (an a.row),.ag (an a.row)] [] fun r _=>r=vb true)∧(∀a:Item,Cl Tryz.prog 109 [.ag (an a.row),.ag (an a.row)] [] fun r _=>r=vb true)∧(∀a:Source,Cl Tryz.prog 110 [.ag (an a.row),.ag (an a.row)] [] fun r _=>r=vb true)∧(∀a:SortKey,Cl Tryz.prog 111 [.ag (an a.row),.ag (an a.row)] [] fun r _=>r=vb true)∧(∀a:Query,Cl Tryz.prog 21 [.ag (an a.row),.ag (an a.row)] [] fun r _=>r=vb true):=by
 refine Expr.ind ?_ ?_ ?_ ?_ ?_
 ·intro kind op not val qual name kids sub hkids hsub
  exact uB _ _ _ _ _ _ _ _ (ip _ hkids) (rl _ hsub)
 ·intro star qual e as_ he
  exact uC _ _ _ _ he
 ·intro table as_ on hon
  exact rn _ _ _ (ip _ hon)
 ·intro e desc he
  exact qe _ _ he
 ·intro distinct items from_ where_ order limit hitems hfrom_ hwhere_ horder
  exact tn _ _ _ _ _ _ (tm _ hitems) (qd _ hfrom_) (ip _ hwhere_) (py _ horder)
theorem Ab (a:Expr):Cl Tryz.prog 14 [.ag (an a.row),.ag (an a.row)] [] fun r _=>r=vb true:=qf.1 a
theorem oJ (a:Query):Cl Tryz.prog 21 [.ag (an a.row),.ag (an a.row)] [] fun r _=>r=vb true:=qf.2.2.2.2 a
theorem oK (a:List Expr):Cl Tryz.prog 45 [.c (.sl a.length (a.flatMap Expr.row) none),.c (.sl a.length (a.flatMap Expr.row) none)] [] fun r _=>r=vb true:=ip a (fun x _=>Ab x)
end Go.Proofs.YteffjmaadkkmeaaGreatDoor
namespace Go.Cv
open Go Go.RowKit Go.Dv
open Go.Vc (ju guardSlot dV vis b7 CellF RowF ValsF D inN okV aV bx gK aR TS sizeTS dN ai fJ bF lQ pR dT bL jw iA en inN inN_iff Plan dsts dstsOps Cells gL)
abbrev K1:=Rg→World→Prop
abbrev KX:=Exit→K1
def Rv:S→Value→Prop
 |.c (.v x),y=>y=x
 |.c .dead,_=>True
 |.c (.fn g [] []),y=>y = .func (.func g) #[] #[]
 |.ag _,_=>True
 |_,_=>False
structure CSim (n:Nat) (f:Rg) (a:Act):Prop where
 size:a.tmps.size=n
 defers:a.defers=[]
 slots:∀i,Rv (f i) (a.tmps.getD i undef)
def argsV:List S→Option (List Value)
 | []=>some []
 |.c (.v x)::r=>match argsV r with|some vs=>some (x::vs)|none=>none
 |_::_=>none
def Stp (K:K1) (f:Rg) (w:World):Prop:=K f w
theorem Stp.go {K:K1} {f:Rg} {w:World} (h:K f w):Stp K f w:=h
def cCall (P:Program) (n:Nat) (d:Option Nat) (g:FuncId) (vs:List Value) (K:K1):K1:=fun f w=>
 aV P g=true∧∃R:Value→World→Prop,Calls P g vs.toArray w (fun e w'=>∃v,e = .returned v∧R v w')∧∀v w',R v w'→Stp K (put n f d (.c (.v v))) w'
def cLoad (P:Program) (n:Nat) (d:Option Nat) (t:TypeId) (ad:Addr) (K:K1):K1:=fun f w=>
 aR P t = .one∧∃v,w.cell? ad=some v∧K (put n f d (.c (.v v))) w
def cStore (P:Program) (n:Nat) (d:Option Nat) (t:TypeId) (ad:Addr) (v:Value) (K:K1):K1:=fun f w=>
 aR P t = .one∧Go.Vc.oneCell v=true∧(w.cell? ad).isSome=true∧w.frozen? ad=false∧∃w',w.setCell ad v=w'∧Stp K (put n f d (.c .dead)) w'
def bG (P:Program) (n:Nat) (d:Option Nat) (t:TypeId) (vs:List Value) (K:K1):K1:=fun f w=>
 ∀b w',b=w.heap.size→w'=w.alloc (.cells vs.toArray t)→K (put n f d (.c (.v (.pointer (some ⟨b,0,none⟩))))) w'
def cLoadA (n:Nat) (d:Option Nat) (k b off:Nat) (K:K1):K1:=fun f w=>
 ∃vs:List Value,vs.length=k∧Cells w b off vs∧K (put n f d (.c (.v (.agg vs.toArray)))) w
def aM (n:Nat) (d:Option Nat) (t:TypeId) (z:List Value) (K:K1):K1:=fun f w=>
 ∀b w',b=w.heap.size→w'=w.alloc (.cells z.toArray t)→K (put n f d (.c (.v (.pointer (some ⟨b,0,none⟩))))) w'
def aB (n:Nat) (d:Option Nat) (b:Nat) (vs:List Value) (K:K1):K1:=fun f w=>
 (∃cur t fz,w.heap[b]?=some (.cells cur t fz)∧Lh cur.size fz∧vs.length=cur.size)∧(∀v∈vs,v.oneCell'=true)∧∃w',w.setRow b vs.toArray=w'∧Stp K (put n f d (.c .dead)) w'
def cOp (P:Program) (n:Nat) (o:Oper) (K:K1):K1:=fun f w=>
 match o.op with
 |.move x | .assign x=>K (put n f o.dst (ev f x)) w
 |.binOp op t x y _=>(match ev f x,ev f y with
  |.c (.v a),.c (.v b)=>bW P n o.dst (do eqGuard op t x y a b;binOp op t a b) (fun f' _ _=>K f' w) f [] none
  |_,_=>False)
 |.unOp op _ x=>(match ev f x with
  |.c (.v a)=>bW P n o.dst (Op.unary op a) (fun f' _ _=>K f' w) f [] none
  |_=>False)
 |.convert s t x=>(match ev f x with
  |.c (.v a)=>bW P n o.dst (convert s t a) (fun f' _ _=>K f' w) f [] none
  |_=>False)
 |.extract x i=>(match ev f x with
  |.c (.v (.tuple ys))=>∃v,ys[i]?=some v∧K (put n f o.dst (.c (.v v))) w
  |_=>False)
 |.indexAddr T x i=>(match ev f x,ev f i,dN P T with
  |.c (.v (.slice (some ⟨b,off,none⟩) ln _)),.c (.v (.int _ k)),some (_,sz,_)=>0≤k∧k<ln∧K (put n f o.dst (.c (.v (.pointer (some ⟨b,off+k.toNat*sz,none⟩))))) w
  |_,_,_=>False)
 |.fieldAddr T x k=>(match ai P T k,ev f x with
  |some q,.c (.v (.pointer (some ⟨b,off,none⟩)))=>K (put n f o.dst (.c (.v (.pointer (some ⟨b,off+q,none⟩))))) w
  |_,_=>False)
 |.nilCheck x=>(match ev f x with
  |.c (.v (.pointer (some ad)))=>K (put n f o.dst (.c (.v (.pointer (some ad))))) w
  |_=>False)
 |.load t x=>(match ev f x with
  |.c (.v (.pointer (some ⟨b,off,none⟩)))=>(match aR P t with | .agg k=>cLoadA n o.dst k b off K f w|_=>cLoad P n o.dst t ⟨b,off,none⟩ K f w)
  |_=>False)
 |.store t x y=>(match ev f x,ev f y with
  |.c (.v (.pointer (some ⟨b,0,none⟩))),.c (.v (.agg xs))=>aR P t = .agg xs.size∧aB n o.dst b xs.toList K f w
  |.c (.v (.pointer (some ⟨b,off,none⟩))),.c (.v v)=>cStore P n o.dst t ⟨b,off,none⟩ v K f w
  |_,_=>False)
 |.alloc t=>(match ba P t with|some z=>aM n o.dst t z K f w|none=>False)
 |.pick x a b=>(match ev f x with
  |.c (.v (.bool t))=>(t=true→K (put n f o.dst (ev f a)) w)∧(t=false→K (put n f o.dst (ev f b)) w)
  |_=>False)
 |.box t x=>(match ev f x with
  |.c (.v (.agg xs))=>bG P n o.dst t xs.toList K f w
  |_=>False)
 |.call c=>(match c.callee with
  |.value g=>(match ev f g,argsV (c.args.toList.map (ev f)) with
   |.c (.fn g [] []),some vs=>cCall P n o.dst g vs K f w
   |_,_=>False)
  |.builtin .len=>(match c.args.toList.map (ev f),c.argTypes.toList with
   | [.c (.v (.slice ad ln cap))],[T]=>Go.Vc.lenK P T=1∧K (put n f o.dst (.c (.v (.int .i64 ln)))) w
   | [.c (.v (.string s))],[T]=>Go.Vc.lenK P T=2∧K (put n f o.dst (.c (.v (.int .i64 s.size)))) w
   |_,_=>False)
  |_=>False)
 |_=>False
def qg (n:Nat) (ops:Array Oper) (o:Oper) (step:K1→K1) (K:K1):K1:=fun f w=>match o.guard with
 |none=>step K f w
 |some (j,want)=>(match guardSlot ops j with
  |some g=>(match f g with
   |.c (.v (.bool b))=>(b=want→step K f w)∧(b=(!want)→K (put n f o.dst (.c .dead)) w)
   |_=>False)
  |none=>False)
def cl (P:Program) (n:Nat) (ops:Array Oper) (K:K1):List Oper→Rg→World→Prop
 | [],f,w=>K f w
 |o::r,f,w=>qg n ops o (cOp P n o) (cl P n ops K r) f w
theorem cg0 (n:Nat) (ops:Array Oper) (T:K1→K1) (Q:K1) (f:Rg) (w:World) (dst:Option Nat) (op:Op) (ty:TypeId) (pos:String) (af:Array Edge):qg n ops ⟨dst,op,ty,pos,af,none⟩ T Q f w=T Q f w:=rfl
theorem cg1 (n:Nat) (ops:Array Oper) (T:K1→K1) (Q:K1) (f:Rg) (w:World) (dst:Option Nat) (op:Op) (ty:TypeId) (pos:String) (af:Array Edge) (j:Nat) (want:Bool):qg n ops ⟨dst,op,ty,pos,af,some (j,want)⟩ T Q f w =
 (match guardSlot ops j with
 |some g=>(match f g with
  |.c (.v (.bool b))=>(b=want→T Q f w)∧(b=(!want)→Q (put n f dst (.c .dead)) w)
  |_=>False)
 |none=>False):=rfl
def cLoop (ws:List Nat) (body:KX→K1) (K:KX):K1:=fun f w=>
 ∃(I:Rg→World→Prop) (μ:Rg→World→Nat),I (cO ws f f) w ∧
  ∀g w2,I (cO ws f g) w2→body (fun e f' w'=>match e with
   |.normal=>I (cO ws f f') w'∧μ (cO ws f f') w' < μ (cO ws f g) w2
   |e=>K e f' w') (cO ws f g) w2
structure Gr (w w':World):Prop where
 size:w.heap.size≤w'.heap.size
 keep:∀b,b<w.heap.size→w'.heap[b]?=w.heap[b]?
 os:w'.os=w.os
 tape:w'.tape=w.tape
 output:w'.output=w.output
def Up (P:Program) (w:World) (s1 s:S):Prop:=∀y,Rv s y→RelS P w (fun _=>none) (fun _=>True) s1 y
def Em (P:Program) (n:Nat) (ws:List Nat) (dd:KE→K0) (K:KX):K1:=fun f w=>
 n≤9000∧GlW w (fun _=>False)∧∃(f1:Rg) (k:KE),(∀i,Up P w (f1 i) (f i))∧dd k f1 [] none ∧
  ∀e f' L' p' w',k e f' L' p'→Gr w w'→K e (fun i=>if inN ws i=true then (match f' i with | .c (.v x)=>.c (.v x)|_=>.c .dead) else f i) w'
def c (P:Program) (n:Nat):Code→KX→Rg→World→Prop
 |.skip,K,f,w=>K .normal f w
 |.label _,K,f,w=>K .normal f w
 |.region _ ops false,K,f,w=>cl P n ops (K .normal) ops.toList f w
 |.region id ops true,K,f,w=>P.follows .mixedOrders=true∧yg ops=true∧Em P n (dstsOps ops.toList) (d P n (.region id ops true)) K f w
 |.seq a b,K,f,w=>c P n a (fun e=>match e with | .normal=>c P n b K|e=>K e) f w
 |.cond x a b,K,f,w=>(match ev f x with
  |.c (.v (.bool t))=>(t=true→c P n a K f w)∧(t=false→c P n b K f w)
  |_=>False)
 |.block id a,K,f,w=>c P n a (fun e=>match e with
  |.exit id'=>if id'=id then K .normal else K (.exit id')
  |e=>K e) f w
 |.loop a,K,f,w=>cLoop (dsts a) (c P n a) K f w
 |.exit id,K,f,w=>K (.exit id) f w
 |.ret,K,f,w=>K .ret f w
 |_,_,_,_=>False
section
variable {P:Program} {n:Nat} {f:Rg} {a:Act} {w:World} {K:K1} {Ka:Act→World→Prop} {Q:Exit→Act→World→Prop} {ops:Array Oper}
theorem f6 (h:CSim n f a) (x:Operand):Rv (ev f x) (a.eval x):=by
 cases x with
 |tmp t=>exact h.slots t
 |const v=>cases v<;>first|rfl|trivial
 |global g=>rfl
 |func g=>rfl
theorem CSim.put (h:CSim n f a) (d:Option Nat) {x:S} {v:Value} (hv:Rv x v):CSim n (Go.Dv.put n f d x) (a.put d v) where
 size:=by rw[Go.Vc.Act.size_put];exact h.size
 defers:=by rw[Go.Vc.Act.defers_put];exact h.defers
 slots:=fun i=>by
  cases d with
  |none=>exact h.slots i
  |some d=>
   rw[Go.Vc.getD_put h.size]
   simp only[Go.Dv.put]
   by_cases hd:d<n
   ·simp only[hd,if_true,qq]
    by_cases hi:i=d
    ·simp [hi,hv]
    ·simp only[hi,false_and,if_false];exact h.slots i
   ·simp only[hd,if_false,and_false];exact h.slots i
theorem qh:∀ {xs:List Operand} {vs:List Value},CSim n f a→argsV (xs.map (ev f))=some vs→xs.map a.eval=vs
 | [],vs,_,h=>by simp [argsV] at h;simp [h]
 |x::r,vs,hs,h=>by
  have hx:=f6 hs x
  simp only[List.map_cons] at h ⊢
  unfold argsV at h
  split at h
  ·rename_i e;simp at e
  ·rename_i z r' e
   injection e with e1 e2
   subst e2
   rw[e1] at hx
   split at h
   ·rename_i vs' hr
    injection h with h
    subst h
    rw[qh hs hr];exact congrArg (· :: vs') hx
   ·cases h
  ·cases h
theorem eK (a:Act) (d:Option Nat) (v:Value):∀j,j ∉ d.toList→(a.put d v).tmps.getD j undef=a.tmps.getD j undef:=(jU (β:=fun _=>none) a d v).tmps
theorem lg {o:Oper} {s:Sem Value} (hs:CSim n f a) (hr:∀w,(execOp a.eval o).run P w=((do pure (Next.value (←s)):Sem Next).run P w))
 (h:bW P n o.dst s (fun f' _ _=>K f' w) f [] none) (hK:∀f' a' w',CSim n f' a'→(∀j,j ∉ o.dst.toList→a'.tmps.getD j undef=a.tmps.getD j undef)→K f' w'→Ka a' w'):o.wp P a w Ka Q:=by
 obtain⟨v,hv,_,hk⟩:=h
 exact bx (v:=v) (w':=w) (by rw[hr];exact lQ (hv w)) (hK _ _ _ (hs.put o.dst (x:=.c (.v v)) rfl) (eK _ _ _) hk)
theorem uD {o:Oper} (hs:CSim n f a) (h:cOp P n o K f w) (hK:∀f' a' w',CSim n f' a'→(∀j,j ∉ o.dst.toList→a'.tmps.getD j undef=a.tmps.getD j undef)→K f' w'→Ka a' w'):o.wp P a w Ka Q:=by
 unfold cOp at h
 split at h
 ·rename_i x ho
  exact bx (v:=a.eval x) (w':=w) (by simp [execOp,ho]) (hK _ _ _ (hs.put o.dst (f6 hs x)) (eK _ _ _) h)
 ·rename_i x ho
  exact bx (v:=a.eval x) (w':=w) (by simp [execOp,ho]) (hK _ _ _ (hs.put o.dst (f6 hs x)) (eK _ _ _) h)
 ·rename_i op t x y pos ho
  have hx:=f6 hs x
  have hy:=f6 hs y
  split at h
  ·rename_i u v e1 e2
   rw[e1] at hx;rw[e2] at hy
   have hx:a.eval x=u:=hx
   have hy:a.eval y=v:=hy
   exact lg hs (fun w'=>by simp [execOp,ho,hx,hy]) h hK
  ·exact h.elim
 ·rename_i op pos x ho
  have hx:=f6 hs x
  split at h
  ·rename_i u e1
   rw[e1] at hx
   have hx:a.eval x=u:=hx
   exact lg hs (fun w'=>by simp [execOp,ho,hx]) h hK
  ·exact h.elim
 ·rename_i s t x ho
  have hx:=f6 hs x
  split at h
  ·rename_i u e1
   rw[e1] at hx
   have hx:a.eval x=u:=hx
   exact lg hs (fun w'=>by simp [execOp,ho,hx]) h hK
  ·exact h.elim
 ·rename_i x i ho
  have hx:=f6 hs x
  split at h
  ·rename_i ys e1
   rw[e1] at hx
   have hx:a.eval x = .tuple ys:=hx
   obtain⟨v,hv,hk⟩:=h
   exact bx (v:=v) (w':=w) (by simp [execOp,ho,hx,Instr.extract,hv]) (hK _ _ _ (hs.put o.dst (x:=.c (.v v)) rfl) (eK _ _ _) hk)
  ·exact h.elim
 ·rename_i T x i ho
  have hx:=f6 hs x
  have hi:=f6 hs i
  split at h
  ·rename_i b off ln cp kk k e sz by' e1 e2 hel
   rw[e1] at hx;rw[e2] at hi
   have hx:a.eval x=_:=hx
   have hi:a.eval i=_:=hi
   obtain⟨h0,h1,h⟩:=h
   obtain⟨hu,inf,hinf,hsz,_⟩:=Go.Vc.elemS_spec hel
   have hrun:(execOp a.eval o).run P w = .ok (.value (.pointer (some (Addr.add ⟨b,off,none⟩ (k.toNat*sz))))) w:=by
    simp [execOp,ho,Instr.indexAt,hi,asIntOf,bL hu,hx,h0,h1,sizeOf,typeInfo,hinf,hsz]
   rw[bF] at hrun
   exact bx hrun (hK _ _ _ (hs.put o.dst (x:=.c (.v _)) rfl) (eK _ _ _) h)
  ·exact h.elim
 ·rename_i T x k ho
  have hx:=f6 hs x
  split at h
  ·rename_i q b off hq e1
   rw[e1] at hx
   have hx:a.eval x=_:=hx
   have:=fJ hq ⟨b,off,none⟩ w
   rw[bF] at this
   exact bx (v:=.pointer (some ⟨b,off+q,none⟩)) (w':=w) (by simp only[execOp,ho,hx];exact lQ this) (hK _ _ _ (hs.put o.dst (x:=.c (.v _)) rfl) (eK _ _ _) h)
  ·exact h.elim
 ·rename_i x ho
  have hx:=f6 hs x
  split at h
  ·rename_i ad e1
   rw[e1] at hx
   have hx:a.eval x=_:=hx
   exact bx (v:=.pointer (some ad)) (w':=w) (by simp [execOp,ho,hx]) (hK _ _ _ (hs.put o.dst (x:=.c (.v _)) rfl) (eK _ _ _) h)
  ·exact h.elim
 ·rename_i t x ho
  have hx:=f6 hs x
  split at h
  ·rename_i b off e1
   rw[e1] at hx
   have hx:a.eval x=_:=hx
   split at h
   ·rename_i k ht
    obtain⟨vs,hl,hc,hk⟩:=h
    have hl:=dV (P:=P) (w:=w) ht (ad:=⟨b,off,none⟩) (vs:=vs) hl (fun j v hj=>by rw[bF];exact hc j v hj)
    exact bx (v:=.agg vs.toArray) (w':=w) (by simp [execOp,ho,Instr.loadAt,Instr.sureAddr,hx,hl]) (hK _ _ _ (hs.put o.dst (x:=.c (.v _)) rfl) (eK _ _ _) hk)
   ·obtain⟨ht,v,hv,hk⟩:=h
    have hl:=dT (P:=P) (w:=w) ht (ad:=⟨b,off,none⟩) (v:=v) hv
    exact bx (v:=v) (w':=w) (by simp [execOp,ho,Instr.loadAt,Instr.sureAddr,hx,hl]) (hK _ _ _ (hs.put o.dst (x:=.c (.v v)) rfl) (eK _ _ _) hk)
  ·exact h.elim
 ·rename_i t x y ho
  have hx:=f6 hs x
  have hy:=f6 hs y
  split at h
  ·rename_i b xs e1 e2
   rw[e1] at hx;rw[e2] at hy
   have hx:a.eval x=_:=hx
   have hy:a.eval y = .agg xs:=hy
   obtain⟨ht,⟨cur,tt,fz,hh,hlh,hlen⟩,hone,_,rfl,hk⟩:=h
   have hst:=eU P b 0 tt fz xs.toList 0 cur w hh hlh (by omega) hone
   have e:(cur.toList.take (0+0)++xs.toList++cur.toList.drop (0+0+xs.toList.length)).toArray=xs.toList.toArray:=by
    rw[List.drop_eq_nil_of_le (by rw[hlen];simp)];simp
   rw[e] at hst
   exact gK (Go.Vc.store_run (w':=w.setRow b xs.toList.toArray) ho hx (by rw[hy,ht];simp [Value.cells,Go.Vc.sizeTS]) (by rw[ht];simp) (by rw[hy];simpa [Value.cells] using hst)) (hK _ _ _ (hs.put o.dst (x:=.c .dead) trivial) (eK _ _ _) hk)
  ·rename_i b off v _ e1 e2
   rw[e1] at hx;rw[e2] at hy
   have hx:a.eval x=_:=hx
   have hy:a.eval y=v:=hy
   obtain⟨ht,h1,hc,hf,_,rfl,hk⟩:=h
   have hsz:v.cells.size=1:=by cases v<;>first|rfl|cases h1
   have hcl:v.cells.toList=[v]:=by cases v<;>first|rfl|cases h1
   have hst:(storeCells ⟨b,off,none⟩ [v]).run P w = .ok () (w.setCell ⟨b,off,none⟩ v):=by
    have:=Go.Vc.run_storeCells_mem (P:=P) [v] ⟨b,off,none⟩ 0 w rfl (by simpa using h1) (fun j hj=>by
     obtain rfl:j=0:=by simpa using hj
     simpa [bF] using ⟨hc,hf⟩)
    simpa [Go.Vc.setCells,bF] using this
   exact gK (Go.Vc.store_run (w':=w.setCell ⟨b,off,none⟩ v) ho hx (by rw[hy,hsz,ht];rfl) (by rw[ht];simp) (by rw[hy,hcl];exact hst)) (hK _ _ _ (hs.put o.dst (x:=.c .dead) trivial) (eK _ _ _) hk)
  ·exact h.elim
 ·rename_i t ho
  split at h
  ·rename_i z hz
   obtain⟨v,hv,hc⟩:=Go.Vc.zeroC_run (iU hz).1 w
   refine bx (v:=.pointer (some ⟨w.heap.size,0,none⟩)) (w':=w.alloc (.cells z.toArray t)) ?_ (hK _ _ _ (hs.put o.dst (x:=.c (.v _)) rfl) (eK _ _ _) (h _ _ rfl rfl))
   rw[←hc]
   simp [execOp,ho,Instr.alloc,hv,en]
  ·exact h.elim
 ·rename_i x u v ho
  have hx:=f6 hs x
  split at h
  ·rename_i t e1
   rw[e1] at hx
   have hx:a.eval x = .bool t:=hx
   cases t with
   |true=>exact bx (v:=a.eval u) (w':=w) (by simp [execOp,ho,hx,asBool]) (hK _ _ _ (hs.put o.dst (f6 hs u)) (eK _ _ _) (h.1 rfl))
   |false=>exact bx (v:=a.eval v) (w':=w) (by simp [execOp,ho,hx,asBool]) (hK _ _ _ (hs.put o.dst (f6 hs v)) (eK _ _ _) (h.2 rfl))
  ·exact h.elim
 ·rename_i t x ho
  have hx:=f6 hs x
  split at h
  ·rename_i xs e1
   rw[e1] at hx
   have hx:a.eval x = .agg xs:=hx
   refine bx (v:=.pointer (some ⟨w.heap.size,0,none⟩)) (w':=w.alloc (.cells xs.toList.toArray t)) ?_ (hK _ _ _ (hs.put o.dst (x:=.c (.v _)) rfl) (eK _ _ _) (h _ _ rfl rfl))
   simp [execOp,ho,hx,Instr.box,en,Value.cells]
  ·exact h.elim
 ·rename_i cc ho
  split at h
  ·rename_i g hg
   split at h
   ·rename_i gid vs e1 e2
    obtain⟨hcl,R,hR,hk⟩:=h
    have hge:a.eval g = .func (.func gid) #[] #[]:=by have:=f6 hs g;rw[e1] at this;exact this
    have hargs:=qh hs e2
    have hrun:(execOp a.eval o).run P w = .ok (.enter gid vs.toArray) w:=by
     have he:cc.args.map a.eval=vs.toArray:=by rw[←hargs,←Array.toList_map]
     simp [execOp,ho,resolve,hg,hge,Deferred.ofValue,invoke,iA hcl,he]
    unfold Oper.wp
    rw[hrun,Oper.upon_enter]
    refine hR.mono ?_
    rintro e w' ⟨v,rfl,hv⟩
    exact hK _ _ _ (hs.put o.dst (x:=.c (.v v)) rfl) (eK _ _ _) (hk v w' hv)
   ·exact h.elim
  ·rename_i hg
   split at h
   ·rename_i ad ln cap T e1 e2
    obtain⟨hT,hk⟩:=h
    obtain⟨x,hx,hev⟩:=Go.Vc.map1 e1
    have ha:=Go.Vc.arr1 hx
    have ht:=Go.Vc.arr1 e2
    have hr:=f6 hs x
    rw[hev] at hr
    have hr:a.eval x=_:=hr
    have hu:∃e,P.underlying T=some (.slice e):=by
     unfold Go.Vc.lenK at hT
     split at hT
     ·rename_i e he;exact⟨e,he⟩
     ·cases hT
     ·cases hT
    exact bx (v:=.int .i64 ln) (w':=w) (Go.Vc.len_run ho hg ha ht (.inl ⟨_,_,_,hr,rfl,hu⟩)) (hK _ _ _ (hs.put o.dst (x:=.c (.v _)) rfl) (eK _ _ _) hk)
   ·rename_i u T e1 e2
    obtain⟨hT,hk⟩:=h
    obtain⟨x,hx,hev⟩:=Go.Vc.map1 e1
    have ha:=Go.Vc.arr1 hx
    have ht:=Go.Vc.arr1 e2
    have hr:=f6 hs x
    rw[hev] at hr
    have hr:a.eval x=_:=hr
    have hu:P.underlying T=some .string:=by
     unfold Go.Vc.lenK at hT
     split at hT
     ·cases hT
     ·assumption
     ·cases hT
    exact bx (v:=.int .i64 u.size) (w':=w) (Go.Vc.len_run ho hg ha ht (.inr ⟨_,hr,rfl,hu⟩)) (hK _ _ _ (hs.put o.dst (x:=.c (.v _)) rfl) (eK _ _ _) hk)
   ·exact h.elim
  ·exact h.elim
 ·exact h.elim
def Kp (ws:List Nat) (a a':Act):Prop:=∀j,j ∉ ws→a'.tmps.getD j undef=a.tmps.getD j undef
theorem Kp.refl (ws:List Nat) (a:Act):Kp ws a a:=fun _ _=>rfl
theorem Kp.trans {ws:List Nat} {a b c:Act} (h:Kp ws a b) (k:Kp ws b c):Kp ws a c:=fun j hj=>(k j hj).trans (h j hj)
theorem Kp.mono {ws us:List Nat} {a b:Act} (h:Kp ws a b) (k:∀j∈ws,j∈us):Kp us a b:=fun j hj=>h j fun e=>hj (k j e)
theorem uE:∀(l:List Oper) {f:Rg} {a:Act} {w:World},CSim n f a→cl P n ops K l f w→(∀f' a' w',CSim n f' a'→Kp (dstsOps l) a a'→K f' w'→Q .normal a' w')→wpList P ops Q l a w
 | [],_,_,_,hs,h,hK=>hK _ _ _ hs (Kp.refl _ _) h
 |o::r,f,a,w,hs,h,hK=>by
  have step:∀ {f' a' w'},CSim n f' a'→(∀j,j ∉ o.dst.toList→a'.tmps.getD j undef=a.tmps.getD j undef)→cl P n ops K r f' w'→wpList P ops Q r a' w':=fun hs' hk h'=>uE r hs' h' fun f'' a'' w'' hs'' hk'' h''=>hK _ _ _ hs'' (by
   have hd:dstsOps (o::r)=o.dst.toList++dstsOps r:=by simp only[dstsOps];cases o.dst<;>rfl
   rw[hd]
   exact (Kp.mono (ws:=o.dst.toList) hk fun j hj=>by simp [hj]).trans (hk''.mono fun j hj=>by simp [hj])) h''
  have h:qg n ops o (cOp P n o) (cl P n ops K r) f w:=h
  unfold qg at h
  unfold wpList
  split at h
  ·rename_i hg
   rw[if_pos (by simp [Region.wanted,hg])]
   exact .inl (uD hs h fun f' a' w' hs' hk h'=>step hs' hk h')
  ·rename_i j want hg
   split at h
   ·rename_i g hgs
    have hslot:=hs.slots g
    split at h
    ·rename_i b hb
     rw[hb] at hslot
     have hslot:a.tmps.getD g undef = .bool b:=hslot
     have hy:yielded ops a.tmps j=some b:=by
      unfold guardSlot at hgs
      simp only[yielded,hgs,Option.bind_some]
      have:a.tmps[g]?=some (.bool b):=by
       rw[Array.getD_eq_getD_getElem?] at hslot
       cases hq:a.tmps[g]? with
       |none=>simp [hq,undef] at hslot
       |some q=>simp [hq] at hslot;rw[hslot]
      rw[this]
     by_cases hbw:b=want
     ·subst hbw
      rw[if_pos (by simp [Region.wanted,hg,hy])]
      exact .inl (uD hs (h.1 rfl) fun f' a' w' hs' hk h'=>step hs' hk h')
     ·have hbn:b = !want:=by cases b<;>cases want<;>simp_all
      subst hbn
      rw[if_neg (by simp [Region.wanted,hg,hy])]
      exact step (hs.put o.dst (x:=.c .dead) trivial) (eK _ _ _) (h.2 rfl)
    ·exact h.elim
   ·exact h.elim
theorem En {ws:List Nat} {s:S} {y:Value} (h:Rv s y):Rv (kS ws [] s) y:=by
 cases s with
 |c x=>
  cases x with
  |fn g p q=>cases p<;>cases q<;>simp_all [Rv,kS,kC,nH]
  |_=>simp_all [Rv,kS,kC]
 |ag cs=>exact trivial
 |tu xs=>exact h.elim
theorem zc {ws:List Nat} {cd:Code} {K:KX} (hm:P.follows .mixedOrders=true) (hok:gF cd=true) (hws:dsts cd=ws) (hs:CSim n f a) (h:Em P n ws (d P n cd) K f w)
 {Q:Exit→Act→World→Prop} (hK:∀e f' a' w',CSim n f' a'→Kp ws a a'→K e f' w'→Q e a' w'):cd.wp P Q a w:=by
 subst hws
 obtain⟨hn,hg,f1,k,hup,hd,hk⟩:=h
 have hno:∀ β b,¬ownB [] β b:=fun β b ⟨i,o,h1,_⟩=>by cases h1
 have hs0:Sim P n w (fun _=>True) (fun _=>False) (fun _=>none) f1 [] none a w:=by
  refine⟨hs.size,hs.defers,fun i=>?_,(fun i o h=>by cases h),(fun i j o o' b h=>by cases h),fun b h=>(hno _ b h).elim,⟨fun _ h=>h.elim,hg⟩,fun _ _ _=>rfl,Wd.refl _,⟨rfl,rfl,rfl⟩,(fun ps h=>by cases h)⟩
  exact ((hup i) _ (hs.slots i)).st (fu fun b _=>⟨hno _ b,fun _=>trivial⟩)
 refine iu hm hn cd hok hs0 hd fun e β' f' L' p' a' w' hs' hkp ht h'=>?_
 refine hK e _ a' w' ⟨hs'.size,hs'.defers,fun i=>?_⟩ hkp.tmps (hk e f' L' p' w' h' ⟨ht.size,fun b hb=>ht.keep b hb (hno _ b),hs'.outer.1,hs'.outer.2.1,hs'.outer.2.2⟩)
 by_cases hi:inN (dsts cd) i=true
 ·simp only[hi,if_true]
  have:=hs'.slots i
  split
  ·rename_i x hx;rw[hx] at this;exact this.1
  ·trivial
 ·simp only[hi]
  rw[hkp.tmps i fun e=>hi (Go.Vc.inN_iff.2 e)]
  exact hs.slots i
theorem kt:∀(x:Code) {K:KX} {Q:Exit→Act→World→Prop} {f:Rg} {a:Act} {w:World},CSim n f a→c P n x K f w →
 (∀e f' a' w',CSim n f' a'→Kp (dsts x) a a'→K e f' w'→Q e a' w')→x.wp P Q a w
 |.skip,K,Q,f,a,w,hs,h,hK=>wp_skip (hK _ _ _ _ hs (Kp.refl _ _) h)
 |.label _,K,Q,f,a,w,hs,h,hK=>wp_label (hK _ _ _ _ hs (Kp.refl _ _) h)
 |.exit _,K,Q,f,a,w,hs,h,hK=>wp_exit (hK _ _ _ _ hs (Kp.refl _ _) h)
 |.ret,K,Q,f,a,w,hs,h,hK=>wp_ret (hK _ _ _ _ hs (Kp.refl _ _) h)
 |.region id ops false,K,Q,f,a,w,hs,h,hK=>wp_region_list (uE ops.toList hs h fun _ _ _ hs' hk h'=>hK _ _ _ _ hs' hk h')
 |.region id ops true,K,Q,f,a,w,hs,h,hK=>zc h.1 (by simpa [gF] using h.2.1) rfl hs h.2.2 hK
 |.seq x y,K,Q,f,a,w,hs,h,hK=>by
  refine wp_seq (kt x hs h fun e f' a' w' hs' hk h'=>?_)
  have hk1:Kp (dsts (.seq x y)) a a':=hk.mono fun j hj=>by simp [dsts,hj]
  cases e with
  |normal=>exact kt y hs' h' fun e f'' a'' w'' hs'' hk'' h''=>hK _ _ _ _ hs'' (hk1.trans (hk''.mono fun j hj=>by simp [dsts,hj])) h''
  |exit id=>exact hK _ _ _ _ hs' hk1 h'
  |goto l=>exact hK _ _ _ _ hs' hk1 h'
  |ret=>exact hK _ _ _ _ hs' hk1 h'
  |panic ch=>exact hK _ _ _ _ hs' hk1 h'
  |outgrown=>exact hK _ _ _ _ hs' hk1 h'
 |.cond x p q,K,Q,f,a,w,hs,h,hK=>by
  have hc:=f6 hs x
  unfold c at h
  split at h
  ·rename_i t hev
   rw[hev] at hc
   refine wp_cond_split (t:=t) hc (fun ht=>?_) (fun ht=>?_)
   ·exact kt p hs (h.1 ht) fun e f' a' w' hs' hk h'=>hK _ _ _ _ hs' (hk.mono fun j hj=>by simp [dsts,hj]) h'
   ·exact kt q hs (h.2 ht) fun e f' a' w' hs' hk h'=>hK _ _ _ _ hs' (hk.mono fun j hj=>by simp [dsts,hj]) h'
  ·exact h.elim
 |.block id x,K,Q,f,a,w,hs,h,hK=>by
  refine wp_block (kt x hs h fun e f' a' w' hs' hk h'=>?_)
  have hk1:Kp (dsts (.block id x)) a a':=hk
  cases e with
  |exit id'=>
   simp only[Exit.inBlock]
   by_cases hid:id'=id
   ·simp only[hid,if_true] at h' ⊢;exact hK _ _ _ _ hs' hk1 h'
   ·simp only[hid,if_false] at h' ⊢;exact hK _ _ _ _ hs' hk1 h'
  |normal=>exact hK _ _ _ _ hs' hk1 h'
  |goto l=>exact hK _ _ _ _ hs' hk1 h'
  |ret=>exact hK _ _ _ _ hs' hk1 h'
  |panic ch=>exact hK _ _ _ _ hs' hk1 h'
  |outgrown=>exact hK _ _ _ _ hs' hk1 h'
 |.loop x,K,Q,f,a,w,hs,h,hK=>by
  obtain⟨I,μ,h0,hround⟩:=h
  have mix:∀ {f':Rg} {a':Act},CSim n f' a'→Kp (dsts x) a a'→CSim n (cO (dsts x) f f') a':=fun {f' a'} hs' hk=>⟨hs'.size,hs'.defers,fun i=>by
   simp only[cO]
   split
   ·exact hs'.slots i
   ·rename_i hi
    rw[hk i fun e=>hi (Go.Vc.inN_iff.2 e)]
    exact En (hs.slots i)⟩
  refine jw (P:=P) (k₀ := μ (cO (dsts x) f f) w) (fun k a' w'=>∃g,CSim n (cO (dsts x) f g) a'∧Kp (dsts x) a a'∧I (cO (dsts x) f g) w'∧k=μ (cO (dsts x) f g) w') ?_ ⟨f,mix hs (Kp.refl _ _),Kp.refl _ _,h0,rfl⟩
  rintro k a' w' ⟨g,hs2,hk2,hI,rfl⟩
  refine kt x hs2 (hround g w' hI) fun e f'' a'' w'' hs'' hk'' h''=>?_
  have hk3:=hk2.trans hk''
  have hk4:Kp (dsts (.loop x)) a a'':=hk3
  cases e with
  |normal=>exact⟨_,h''.2,f'',mix hs'' hk3,hk3,h''.1,rfl⟩
  |exit id=>exact hK _ _ _ _ hs'' hk4 h''
  |goto l=>exact hK _ _ _ _ hs'' hk4 h''
  |ret=>exact hK _ _ _ _ hs'' hk4 h''
  |panic ch=>exact hK _ _ _ _ hs'' hk4 h''
  |outgrown=>exact hK _ _ _ _ hs'' hk4 h''
 |.rangeFunc _ _ _ _,K,Q,f,a,w,_,h,_=>h.elim
 |.scope _,K,Q,f,a,w,_,h,_=>h.elim
 |.goto _,K,Q,f,a,w,_,h,_=>h.elim
 |.refuse _,K,Q,f,a,w,_,h,_=>h.elim
def cRet (rs:List ResultVar) (R:Value→World→Prop):K1:=fun f w=>match rs with
 | [.tmp t]=>(match f t with | .c (.v x)=>R x w|_=>False)
 |_=>False
def cEnd (rs:List ResultVar) (R:Value→World→Prop):KX
 |.normal | .ret=>cRet rs R
 |_=>fun _ _=>False
def regsV:List Value→Rg
 | []=>fun _=>.c .dead
 |v::vs=>fun i=>match i with|0=>.c (.v v)|i+1=>regsV vs i
theorem uF (k:Nat):∀(vs:List Value) (i:Nat),Rv (regsV vs i) ((vs++List.replicate k undef)[i]?.getD undef)
 | [],_=>trivial
 |v::vs,0=>rfl
 |v::vs,i+1=>by simpa [regsV] using uF k vs i
theorem cY {fi:FuncId} {fn:Func} {cd:Code} {vs:List Value} {R:Value→World→Prop} (hf:P.funcs[fi]?=some fn) (hb:fn.body=some cd) (hl:vs.length≤fn.ntmps)
 (h:c P fn.ntmps cd (cEnd fn.results.toList R) (regsV vs) w):Calls P fi vs.toArray w (fun e w'=>∃v,e = .returned v∧R v w'):=by
 refine calls_of_wp hf hb ?_
 refine kt cd ⟨by simp;omega,rfl,fun i=>?_⟩ h fun e f' a' w' hs' _ h'=>?_
 ·have:=uF (fn.ntmps-vs.length) vs i
  have e:(vs.toArray++Array.replicate (fn.ntmps-vs.toArray.size) undef)[i]?=(vs++List.replicate (fn.ntmps-vs.length) undef)[i]?:=by
   rw[←Array.getElem?_toList];simp
  simp only[Array.getD_eq_getD_getElem?,e];exact this
 ·have fin:cRet fn.results.toList R f' w'→a'.defers=[]∧∃v,(results fn a'.tmps).run P w' = .ok v w'∧∃u,Ending.returned v = .returned u∧R u w':=by
   intro h'
   unfold cRet at h'
   split at h'
   ·rename_i t hrs
    have hslot:=hs'.slots t
    split at h'
    ·rename_i x hx
     rw[hx] at hslot
     refine⟨hs'.defers,x,?_,x,rfl,h'⟩
     have:=Go.Vc.results_run (fn:=fn) (a:=a') (vs:=[x]) (w:=w') (P:=P) (by rw[hrs];simp only[List.mapM_cons,List.mapM_nil,Sem.run_bind,Go.Vc.resV,Sem.run_pure,Result.andThen_ok];rw[show a'.tmps.getD t undef=x from hslot])
     exact this
    ·exact h'.elim
   ·exact h'.elim
  cases e with
  |normal=>exact fin h'
  |ret=>exact fin h'
  |exit id=>exact h'.elim
  |goto l=>exact h'.elim
  |panic ch=>exact h'.elim
  |outgrown=>exact h'.elim
end
end Go.Cv
namespace Go.Cv
open Go Go.RowKit Go.Dv
open Go.Vc (vis b7 CellF RowF ValsF D okV Cells Chg Grow setCells bF)
theorem Gr.refl (w:World):Gr w w:=⟨Nat.le_refl _,fun _ _=>rfl,rfl,rfl,rfl⟩
theorem Gr.trans {a b c:World} (h:Gr a b) (k:Gr b c):Gr a c:=
 ⟨Nat.le_trans h.size k.size,fun i hi=>(k.keep i (Nat.lt_of_lt_of_le hi h.size)).trans (h.keep i hi),k.os.trans h.os,k.tape.trans h.tape,k.output.trans h.output⟩
theorem vis_lt {w:World} {b:Nat} (h:Go.Vc.vis w b):b<w.heap.size:=by
 obtain⟨o,ho,_⟩:=h
 exact (Array.getElem?_eq_some_iff.1 ho).1
theorem Gr.grow {w w':World} (h:Gr w w'):Grow w w':=⟨fun b hb=>h.keep b (vis_lt hb),h.os,h.tape,h.output⟩
structure ChL (F:List Nat) (w w':World):Prop where
 chg:Chg F w w'
 size:w.heap.size≤w'.heap.size
 keep:∀b,b<w.heap.size→b ∉ F→w'.heap[b]?=w.heap[b]?
theorem ChL.store {w:World} {b o:Nat} {v:Value}:ChL [b] w (w.setCell ⟨b,o,none⟩ v):=⟨Chg.store,by rw[World.size_setCell];exact Nat.le_refl _,fun x _ hx=>Go.heap_setCell_other w ⟨b,o,none⟩ x v (by simpa using hx)⟩
theorem ChL.refl (F:List Nat) (w:World):ChL F w w:=⟨Chg.refl _ _,Nat.le_refl _,fun _ _ _=>rfl⟩
theorem ChL.trans {F:List Nat} {a b c:World} (h:ChL F a b) (k:ChL F b c):ChL F a c:=
 ⟨h.chg.trans k.chg,Nat.le_trans h.size k.size,fun x hx hn=>(k.keep x (Nat.lt_of_lt_of_le hx h.size) hn).trans (h.keep x hx hn)⟩
theorem ChL.mono {F G:List Nat} {a b:World} (h:ChL F a b) (hs:∀x∈F,x∈G):ChL G a b:=⟨h.chg.mono hs,h.size,fun x hx hn=>h.keep x hx fun e=>hn (hs x e)⟩
theorem Gr.chl {a b:World} (h:Gr a b) (F:List Nat):ChL F a b:=⟨h.grow.chg F,h.size,fun x hx _=>h.keep x hx⟩
theorem Gr.chl_trans {w a b:World} {F:List Nat} (h:Gr w a) (k:ChL F a b) (hf:∀x∈F,w.heap.size≤x):Gr w b:=
 ⟨Nat.le_trans h.size k.size,fun x hx=>(k.keep x (Nat.lt_of_lt_of_le hx h.size) fun e=>by have:=hf x e;omega).trans (h.keep x hx),k.chg.os.trans h.os,k.chg.tape.trans h.tape,k.chg.output.trans h.output⟩
def OwnL (m:World) (F:List Nat):Prop:=∀b∈F,∃cs t lh,m.heap[b]?=some (.cells cs t lh)∧Lh cs.size lh
theorem OwnL.nil (m:World):OwnL m []:=fun _ h=>by cases h
theorem pf {m:World} {b:Nat} (h:∃cs t lh,m.heap[b]?=some (.cells cs t lh)∧Lh cs.size lh):vis m b:=by
 obtain⟨cs,t,lh,h,_⟩:=h;exact⟨_,h,by simp [Go.Vc.hid]⟩
theorem OwnL.vis {m:World} {F:List Nat} (h:OwnL m F):∀b∈F,Go.Vc.vis m b:=fun b hb=>pf (h b hb)
theorem OwnL.grow {m m':World} (g:Grow m m') {F:List Nat} (h:OwnL m F):OwnL m' F:=fun b hb=>by
 have hv:=h.vis b hb
 obtain⟨cs,t,lh,e,hl⟩:=h b hb
 exact⟨cs,t,lh,(g.blocks b hv).trans e,hl⟩
theorem OwnL.app {m:World} {F G:List Nat} (h:OwnL m F) (k:OwnL m G):OwnL m (F++G):=fun b hb=>(List.mem_append.1 hb).elim (h b) (k b)
theorem OwnL.frozen {m:World} {F:List Nat} (h:OwnL m F) {b o:Nat} (hb:b∈F) (hc:(m.cell? ⟨b,o,none⟩).isSome=true):m.frozen? ⟨b,o,none⟩=false:=by
 obtain⟨cs,t,⟨lo,hi⟩,e,hl⟩:=h _ hb
 have ho:o<cs.size:=by
  unfold World.cell? at hc
  rw[e] at hc
  simpa using hc
 have:=hl o ho
 simp only[World.frozen?,e,Bool.and_eq_false_iff,decide_eq_false_iff_not]
 simp only at this
 omega
theorem OwnL.store {m:World} {F:List Nat} {b o:Nat} {v:Value} (h:OwnL m F):OwnL (m.setCell ⟨b,o,none⟩ v) F:=fun x hx=>by
 obtain⟨cs,t,lh,e,hl⟩:=h x hx
 by_cases hxb:x=b
 ·subst hxb
  refine⟨cs.setIfInBounds o v,t,lh,?_,by simpa using hl⟩
  simp [World.setCell,Array.getElem?_modify,e]
 ·exact⟨cs,t,lh,(Go.heap_setCell_other m ⟨b,o,none⟩ x v hxb).trans e,hl⟩
theorem OwnL.chg {F G:List Nat} {m m':World} (c:ChL G m m') (hG:OwnL m' G) (h:OwnL m F):OwnL m' F:=fun b hb=>by
 by_cases hg:b∈G
 ·exact hG b hg
 ·obtain⟨cs,t,lh,e,hl⟩:=h b hb
  exact⟨cs,t,lh,(c.chg.blocks b (pf ⟨cs,t,lh,e,hl⟩) hg).trans e,hl⟩
theorem OwnL.sub {F G:List Nat} {m:World} (h:OwnL m F) (hs:∀b∈G,b∈F):OwnL m G:=fun b hb=>h b (hs b hb)
def Mrk1 (m0:World) (F:List Nat) (m:World) (b o:Nat) (ds es:List D):Prop:=
 ∃v1 v2 F1 F2,F=b::(F1++F2)∧F.Nodup∧OwnL m F∧ChL F m0 m∧Cells m b o (v1++v2)∧ValsF m ds v1 F1∧ValsF m es v2 F2∧ds++es≠[]
def Mrk (m0:World) (F:List Nat) (m:World) (a:Option Addr) (ds es:List D):Prop:=
 (ds=[]∧es=[]∧F=[]∧ChL [] m0 m)∨∃b o,a=some ⟨b,o,none⟩∧Mrk1 m0 F m b o ds es
theorem Mrk.start {m:World} {a:Option Addr} {n cap:Nat} {ds:List D} {F:List Nat} (h:CellF m (.sl n ds) (.slice a n cap) F) (hn:F.Nodup) (ho:OwnL m F):Mrk m F m a [] ds:=by
 obtain⟨a',cap',h1,_,_,_,hc⟩:=h
 injection h1 with h1 _ h1c
 subst h1 h1c
 rcases hc with⟨rfl,rfl⟩|⟨hne,b,o,F',rfl,hr,rfl⟩
 ·exact .inl ⟨rfl,rfl,rfl,ChL.refl _ _⟩
 ·obtain⟨vs,hcells,hv⟩:=hr.vals
  exact .inr ⟨b,o,rfl,[],vs,[],F',rfl,hn,ho,ChL.refl _ _,hcells,rfl,hv,by simpa using hne⟩
theorem Mrk.done {m0 m:World} {a:Option Addr} {n cap:Nat} {ds:List D} {F:List Nat} (h:Mrk m0 F m a ds []) (h1:n≤cap) (h2:cap≤maxLen) (h3:a=none→cap=0) :
 CellF m (.sl n ds) (.slice a n cap) F∧OwnL m F∧ChL F m0 m:=by
 rcases h with⟨rfl,_,rfl,hc⟩|⟨b,o,rfl,v1,v2,F1,F2,rfl,hn,ho,hc,hcl,hv1,hv2,hne⟩
 ·exact⟨⟨a,cap,rfl,h1,h2,h3,.inl ⟨rfl,rfl⟩⟩,OwnL.nil _,hc⟩
 ·cases v2 with
  |cons _ _=>exact hv2.elim
  |nil=>
   have hv2:F2=[]:=hv2
   subst hv2
   rw[List.append_nil] at hcl hne ho hc ⊢
   exact⟨⟨_,cap,rfl,h1,h2,h3,.inr ⟨hne,b,o,F1,rfl,hv1.row hcl,rfl⟩⟩,ho,hc⟩
theorem Mrk.open {m0 m:World} {a:Option Addr} {ds es:List D} {F:List Nat} (h:Mrk m0 F m a ds es) (hne:es≠[]):∃b o,a=some ⟨b,o,none⟩∧Mrk1 m0 F m b o ds es:=by
 rcases h with⟨_,h,_⟩|h
 ·exact absurd h hne
 ·exact h
theorem Mrk1.close {m0 m:World} {b o:Nat} {ds es:List D} {F:List Nat} (h:Mrk1 m0 F m b o ds es):Mrk m0 F m (some ⟨b,o,none⟩) ds es:=.inr ⟨b,o,rfl,h⟩
theorem Mrk1.here {m0 m:World} {b o p:Nat} {u:Value} {ds es:List D} {F:List Nat} (h:Mrk1 m0 F m b o ds (.lit u::es)) (hp:p=o+ds.length) :
 (m.cell? ⟨b,p,none⟩).isSome=true∧m.frozen? ⟨b,p,none⟩=false:=by
 obtain⟨v1,v2,F1,F2,rfl,hn,ho,hc,hcl,hv1,hv2,_⟩:=h
 subst hp
 have hc:(m.cell? ⟨b,o+ds.length,none⟩).isSome=true:=by
  cases v2 with
  |nil=>exact hv2.elim
  |cons v v2=>
   have:=hcl v1.length v (by rw[List.getElem?_append_right (by omega)];simp)
   rw[hv1.length] at this
   rw[this];rfl
 exact⟨hc,ho.frozen (by simp) hc⟩
theorem Mrk1.store {m0 m:World} {b o p:Nat} {u u':Value} {ds es:List D} {F:List Nat} (h:Mrk1 m0 F m b o ds (.lit u::es)) (hp:p=o+ds.length) (hu:okV u') :
 Mrk1 m0 F (m.setCell ⟨b,p,none⟩ u') b o (ds++[.lit u']) es:=by
 obtain⟨v1,v2,F1,F2,rfl,hn,ho,hc,hcl,hv1,hv2,_⟩:=h
 subst hp
 cases v2 with
 |nil=>exact hv2.elim
 |cons v v2=>
  obtain⟨G1,G2,⟨_,rfl,_⟩,hv2,rfl⟩:=hv2
  have hs:=Cells.store_at (va:=v1) (ve:=[v]) (vb:=v2) (i:=ds.length) (j:=0) (v:=u') hcl hv1.length (by simp)
  simp only[List.nil_append,List.nodup_cons,List.mem_append,not_or] at hn ⊢
  have c:ChL [b] m (m.setCell ⟨b,o+ds.length,none⟩ u'):=ChL.store
  have hd1:∀x∈F1,x ∉ [b]:=fun x hx e=>hn.1.1 (by simp at e;exact e▸hx)
  have hd2:∀x∈F2,x ∉ [b]:=fun x hx e=>hn.1.2 (by simp at e;exact e▸hx)
  refine⟨v1++[u'],v2,F1,F2,rfl,by simpa using hn,ho.store,hc.trans (c.mono (by simp)),?_,?_,hv2.chg c.chg hd2,by simp⟩
  ·simpa using hs
  ·have hj:=(hv1.chg c.chg hd1).join (ValsF.single (m:=m.setCell ⟨b,o+ds.length,none⟩ u') (d:=.lit u') (v:=u') (F:=[]) ⟨rfl,rfl,hu⟩)
   rwa[List.append_nil] at hj
theorem Mrk1.load {m0 m:World} {b o p:Nat} {d:D} {ds es:List D} {F:List Nat} (h:Mrk1 m0 F m b o ds (d::es)) (hp:p=o+ds.length) :
 ∃v G,m.cell? ⟨b,p,none⟩=some v∧CellF m d v G∧G.Nodup∧OwnL m G∧(∀x∈G,x∈F) ∧
  ∀m' d',ChL G m m'→CellF m' d' v G→OwnL m' G→Mrk1 m0 F m' b o (ds++[d']) es:=by
 obtain⟨v1,v2,F1,F2,rfl,hn,ho,hc,hcl,hv1,hv2,_⟩:=h
 subst hp
 cases v2 with
 |nil=>exact hv2.elim
 |cons v v2=>
  obtain⟨G1,G2,hd,hv2,rfl⟩:=hv2
  have hat:=hcl v1.length v (by rw[List.getElem?_append_right (by omega)];simp)
  rw[hv1.length] at hat
  have hn':=hn
  simp only[List.nodup_cons,List.nodup_append,List.mem_append,not_or] at hn'
  obtain⟨⟨nb1,nbg,nb2⟩,n1,⟨ng,n2,ng2⟩,n12⟩:=hn'
  refine⟨v,G1,hat,hd,ng,ho.sub (by simp;intro x hx;simp [hx]),by simp;intro x hx;simp [hx],fun m' d' c hd' ho'=>?_⟩
  refine⟨v1++[v],v2,F1++G1,G2,by simp,hn,OwnL.chg c ho' ho,hc.trans (c.mono (by simp;intro x hx;simp [hx])),?_,?_,hv2.chg c.chg (fun x hx e=>ng2 x e x hx rfl),by simp⟩
  ·have:=hcl.chg c.chg nbg
   simpa using this
  ·exact (hv1.chg c.chg (fun x hx e=>n12 x hx x (.inl e) rfl)).join (ValsF.single hd')
theorem Mrk1.st {m0 m:World} {b o:Nat} {u:Value} {ds es:List D} {F:List Nat} (h:Mrk1 m0 F m b o ds (.lit u::es)) (p:Nat) (u':Value) (hp:p=o+ds.length) (hu:okV u') :
 (m.cell? ⟨b,p,none⟩).isSome=true∧m.frozen? ⟨b,p,none⟩=false∧∃m',m.setCell ⟨b,p,none⟩ u'=m'∧Mrk1 m0 F m' b o (ds++[.lit u']) es:=
 ⟨(h.here hp).1,(h.here hp).2,_,rfl,h.store hp hu⟩
theorem Mrk1.grow {m0 m m':World} {b o:Nat} {ds es:List D} {F:List Nat} (gg:Gr m m') (h:Mrk1 m0 F m b o ds es):Mrk1 m0 F m' b o ds es:=by
 obtain⟨v1,v2,F1,F2,rfl,hn,ho,hc,hcl,hv1,hv2,hne⟩:=h
 have g:=gg.grow
 exact⟨v1,v2,F1,F2,rfl,hn,ho.grow g,hc.trans (gg.chl _),hcl.grow g,hv1.grow g,hv2.grow g,hne⟩
theorem Mrk1.chl {m0 m:World} {b o:Nat} {ds es:List D} {F:List Nat} (h:Mrk1 m0 F m b o ds es):ChL F m0 m:=by
 obtain⟨_,_,_,_,rfl,_,_,hc,_⟩:=h
 exact hc
theorem bk {w w':World} {F:List Nat} (h:ChL F w w') (hg:GlW w (fun _=>False)) (hf:∀t∈dv,t.1 ∉ F):GlW w' (fun _=>False):=fun t ht=>by
 obtain⟨h1,cs,ty,lh,h2,h3⟩:=hg t ht
 exact⟨h1,cs,ty,lh,(h.keep _ (Array.getElem?_eq_some_iff.1 h2).1 (hf t ht)).trans h2,h3⟩
end Go.Cv
namespace Go.Cv
open Go Go.RowKit Go.Dv
open Go.Vc (vis b7 CellF RowF ValsF D okV Cells Chg Grow bF aV)
structure New (w w':World) (G:List Nat):Prop where
 nodup:G.Nodup
 new:∀b∈G,w.heap.size≤b
 own:OwnL w' G
theorem New.nil (w w':World):New w w' []:=⟨List.nodup_nil,(fun _ h=>by cases h),OwnL.nil _⟩
def Res (P:Program) (w w':World) (r:S) (v:Value):Prop:=
 ∃ β ok,RelS P w' β ok (expS 9700 r) v∧(∀b,ok b → ¬ownB (back r []) β b)∧(∀i o,Go.Dv.look (back r []) i=some o→RelO P w' β ok i o)∧(∀b,ownB (back r []) β b→w.heap.size≤b) ∧
  (fps r []).flatten.Nodup∧(∀b∈(fps r []).flatten,w.heap.size≤b∧∃cs t lh,w'.heap[b]?=some (.cells cs t lh)∧Lh cs.size lh)
section
variable {P:Program} {w w':World}
theorem Cl.at {g:FuncId} {args:List S} {R:S→List (List C)→Prop} (h:Cl P g args [] R) (hp:dk (args.flatMap bt)=true) {vs:List Value}
 (hv:RelA P w (fun _=>none) (fun _=>True) args vs) (hg:GlW w (fun _=>False)) :
 aV P g=true∧Calls P g vs.toArray w fun e w'=>∃v,e = .returned v∧∃r,R r []∧Gr w w'∧Res P w w' r v:=by
 obtain⟨e1,e2⟩:=nd 9500 hp
 have el:lent args []=[]:=by simp [lent,e2,jE]
 have hno:∀ β b,¬ownB [] β b:=fun β b ⟨i,o,h1,_⟩=>by simp [Go.Dv.look] at h1
 have hok:si (fun _=>True) (lent args []) (fun _=>none)=fun _=>True:=by
  funext b
  simp [si,el,hno]
 refine⟨h.1,(h.2 w (fun _=>none) (fun _=>True) vs ?_ ?_ ?_).mono ?_⟩
 ·rw[e1,hok];exact hv
 ·rw[el];exact⟨fun i o hl=>by simp [Go.Dv.look] at hl,fun i j o o' b hl=>by simp [Go.Dv.look] at hl⟩
 ·exact hg.mono (fun _ _ _=>rfl) fun b hb _=>by rw[el] at hb;exact (hno _ _ hb).elim
 ·rintro e W' ⟨v,r,objs,β,rfl,hR,hP⟩
  have ho:objs=[]:=List.eq_nil_of_length_eq_zero (by simpa using hP.len)
  subst ho
  refine⟨v,rfl,r,hR,⟨hP.tr.size,fun b hb=>hP.tr.keep b hb (by rw[el];exact hno _ b),hP.outer.1,hP.outer.2.1,hP.outer.2.2⟩,β,_,hP.rel,fun b hb=>hb.1,hP.obs.rel,fun b hb=>?_,hP.fresh.1,fun b hb=>?_⟩
  ·by_cases hlt:b<w.heap.size
   ·have:=hP.tr.own b hlt hb
    rw[el] at this;exact (hno _ _ this).elim
   ·omega
  ·obtain⟨h1,h2,_⟩:=hP.fresh.2 b hb
   refine⟨h1.elim id fun h=>?_,h2⟩
   rw[el] at h;exact (hno _ _ h).elim
theorem Res.val {x v:Value} (h:Res P w w' (.c (.v x)) v):v=x:=by
 obtain⟨β,ok,h,_⟩:=h
 exact h.1
theorem iC {ok:Nat→Prop} {β:Nat→Option Nat}:∀ {ds:List D} {vs:List Value},(∀d∈ds,∀x,d = .lit x→True)→RelL P w β ok (an ds) vs→∃G,ValsF w ds vs G
 | [],[],_,_=>⟨[],rfl⟩
 | [],_::_,_,h=>h.elim
 |_::_,[],_,h=>h.elim
 |.lit x::ds,v::vs,hh,h=>by
  obtain⟨G,hG⟩:=iC (fun d hd=>hh d (by simp [hd])) h.2
  obtain⟨h1,h2⟩:=(show v=x∧okV x from h.1)
  subst h1
  exact⟨G,[],G,⟨rfl,rfl,h2⟩,hG,by simp⟩
 |.sl n es::ds,v::vs,hh,h=>by
  obtain⟨G,hG⟩:=iC (fun d hd=>hh d (by simp [hd])) h.2
  obtain⟨H,h1,_⟩:=h.1
  exact⟨H++G,H,G,h1,hG,rfl⟩
theorem lS (b:Nat):∀ds:List D,expC b (an ds)=an ds
 | []=>rfl
 |d::ds=>by cases d<;>simp [an,rk,expC,lS (b+10000) ds]
theorem rY:∀ {ds:List D} {vs:List Value} {G:List Nat},(∀d∈ds,∃x,d = .lit x)→ValsF w ds vs G→G=[]
 | [],[],_,_,h=>h
 | [],_::_,_,_,h=>h.elim
 |_::_,[],_,_,h=>h.elim
 |d::ds,v::vs,G,hl,⟨F1,F2,h1,h2,h3⟩=>by
  obtain⟨x,rfl⟩:=hl d (by simp)
  have e2:=rY (fun d hd=>hl d (by simp [hd])) h2
  have e1:F1=[]:=h1.2.1
  rw[h3,e1,e2];rfl
theorem Res.owL {ty:TypeId} {n:Nat} {ds:List D} {F:Option (List (List Nat))} {v:Value} (hl:∀d∈ds,∃x,d = .lit x) (h:Res P w w' (.c (.ow ty n ds F)) v):∃G,CellF w' (.sl n ds) v G∧New w w' G:=by
 obtain⟨β,ok,h,hno,hobj,hnew,hnd,hfr⟩:=h
 have hb:back (.c (.ow ty n ds F)) []=[(9700,.arr ty n ds F)]:=rfl
 rw[hb] at hno hobj hnew
 have ho:=hobj 9700 (.arr ty n ds F) rfl
 have hO:OwnS P w' (β 9700) n v:=h
 clear h
 rcases ho with⟨h1,rfl,rfl⟩|⟨b,vs,hd,junk,G,lh,h1,h2,hlh,h3,h4,h5,h6,h7⟩
 ·rw[h1] at hO
  obtain⟨_,rfl⟩:=hO
  exact⟨[],⟨none,0,rfl,Nat.le_refl _,by simp [maxLen],fun _=>rfl,.inl ⟨rfl,rfl⟩⟩,New.nil _ _⟩
 ·rw[h1] at hO
  obtain⟨cap,cs,ty',lh',rfl,hc1,hc2,_,_⟩:=hO
  have hob:ownB [(9700,O.arr ty n ds F)] β b:=⟨9700,_,rfl,h1⟩
  obtain rfl:=rY hl h4
  by_cases hds:ds=[]
  ·exact⟨[],⟨_,cap,rfl,hc1,hc2,by simp,.inl ⟨hds,rfl⟩⟩,New.nil _ _⟩
  ·refine⟨[b],⟨_,cap,rfl,hc1,hc2,by simp,.inr ⟨hds,b,0,[],rfl,h4.row fun j u hj=>?_,rfl⟩⟩,⟨by simp,fun x hx=>?_,fun x hx=>?_⟩⟩
   ·rw[Nat.zero_add,cell_of_row w' b j vs ty lh h2,←Array.getElem?_toList,h3,List.getElem?_append_left (List.getElem?_eq_some_iff.1 hj).1];exact hj
   ·obtain rfl:x=b:=by simpa using hx
    exact hnew _ hob
   ·obtain rfl:x=b:=by simpa using hx
    exact⟨vs,ty,lh,h2,hlh⟩
structure Td (cs:List C) (ds:List D) (F:List (List Nat)):Prop where
 exp:∀b,expC b cs=cs
 obj:∀b,expO b cs=[]
 dat:dsOf cs=some (ds,some F)
 fp:fpL cs=F
 flat:flatL cs=true
 good:cs.all goodC=true
 kill:∀a b,kCs a b cs=cs
 frz:∀i n x,fCs i n x cs=cs
 owns:ownsC cs=none
 len:cs.length=ds.length
end
theorem New.lt {w w':World} {G:List Nat} (h:New w w' G):∀b∈G,b<w'.heap.size:=fun b hb=>vis_lt (h.own.vis b hb)
theorem d3 {w w':World} (h:Gr w w') (hg:GlW w (fun _=>False)):GlW w' (fun _=>False):=hg.mono (fun b hb _=>h.keep b hb) fun _ h _=>h
theorem bI {w:World} {d:D} {ds:List D} {vs:List Value} {F:List Nat} (h:ValsF w (d::ds) vs F):∃v r F1 R,vs=v::r∧CellF w d v F1∧ValsF w ds r R∧F=F1++R:=by
 cases vs with
 |nil=>exact h.elim
 |cons v r=>obtain⟨F1,F2,h1,h2,h3⟩:=h;exact⟨v,r,F1,F2,rfl,h1,h2,h3⟩
theorem nv {w:World} {vs:List Value} {F:List Nat} (h:ValsF w [] vs F):vs=[]∧F=[]:=by
 cases vs with
 |nil=>exact⟨rfl,h⟩
 |cons _ _=>exact h.elim
theorem aY {w:World} {d:D} {ds:List D} {v:Value} {r:List Value} {F R:List Nat} (h:CellF w d v F) (k:ValsF w ds r R):ValsF w (d::ds) (v::r) (F++R):=⟨F,R,h,k,rfl⟩
theorem lj {w:World}:ValsF w [] [] []:=rfl
theorem eP {w:World} {v:Value} (h:okV v):CellF w (.lit v) v []:=⟨rfl,rfl,h⟩
theorem f9 {A B:List Nat} (h:B.Nodup) (hs:∀x,A.count x≤B.count x):A.Nodup:=Sb.nodup (B:=B) hs h
theorem bD {A B C:List Nat} (h:C.Nodup) (hs:∀x,A.count x+B.count x≤C.count x):∀x∈A,x ∉ B:=fun x hx hy=>by
 have h1:=List.nodup_iff_count.1 h x
 have h2:=List.count_pos_iff.2 hx
 have h3:=List.count_pos_iff.2 hy
 have:=hs x
 omega
theorem bz {w w':World} {b:Nat} {cs:Array Value} {t:TypeId} (hb:b=w.heap.size) (hw:w'=w.alloc (.cells cs t)):w'.heap[b]?=some (.cells cs t (0,0))∧Gr w w':=by
 subst hb hw
 exact⟨Go.heap_alloc_new w _,by simp,fun x hx=>Go.heap_alloc_old w _ hx,rfl,rfl,rfl⟩
theorem eQ {w:World} {b:Nat} {cs:Array Value} {t:TypeId} {lh:Nat×Nat} (h:w.heap[b]?=some (.cells cs t lh)) {j:Nat} {v:Value} (hv:cs[j]?=some v):w.cell? ⟨b,j,none⟩=some v:=by
 rw[cell_of_row w b j cs t lh h];exact hv
theorem OwnL.other {F G:List Nat} {a b:World} (h:OwnL a F) (g:ChL G a b) (hd:∀x∈F,x ∉ G):OwnL b F:=fun x hx=>by
 obtain⟨cs,t,lh,e,hl⟩:=h x hx
 exact⟨cs,t,lh,(g.keep x (vis_lt (h.vis x hx)) (hd x hx)).trans e,hl⟩
def ah:List D→List (List (List Nat))→List C
 |.lit v::r,Fs=>.v v::ah r Fs
 |.sl n ds::r,F::Fs=>.sl n ds (some F)::ah r Fs
 |.sl n ds::r,[]=>.sl n ds none::ah r []
 | [],_=>[]
def ze:List D→Nat→Bool
 |.lit (.slice ..)::_,_=>false
 |.lit (.agg ..)::_,_=>false
 |.lit (.tuple ..)::_,_=>false
 |.lit _::r,k=>ze r k
 |.sl .. :: r,k+1=>ze r k
 |.sl .. :: _,0=>false
 | [],k=>k==0
theorem lT:∀(ds:List D) (Fs:List (List (List Nat))),ze ds Fs.length=true→Td (ah ds Fs) ds Fs.flatten
 | [],[],_=>⟨fun _=>rfl,fun _=>rfl,rfl,rfl,rfl,rfl,fun _ _=>rfl,fun _ _ _=>rfl,rfl,rfl⟩
 | [],_::_,h=>by simp [ze] at h
 |.sl n es::r,[],h=>by simp [ze] at h
 |.sl n es::r,F::Fs,h=>by
  have t:=lT r Fs (by simpa [ze] using h)
  exact⟨fun b=>by simp [ah,expC,t.exp],fun b=>by simp [ah,expO,t.obj],by simp [ah,dsOf,zp,t.dat,iS],by simp [ah,fpL,tF,t.fp],by simp [ah,flatL,fw,t.flat],by simp [ah,goodC,t.good],fun a b=>by simp [ah,kCs,kC,t.kill],fun i m x=>by simp [ah,fCs,fC,t.frz],by simp [ah,ownsC,t.owns],by simp [ah,t.len]⟩
 |.lit v::r,Fs,h=>by
  have t:=lT r Fs (by cases v<;>simp_all [ze])
  have hd:zp (.v v)=some (.lit v,some []):=by cases v<;>first|rfl|simp [ze] at h
  have hg:goodC (.v v)=true:=by cases v<;>first|rfl|simp [ze] at h
  exact⟨fun b=>by simp [ah,expC,t.exp],fun b=>by simp [ah,expO,t.obj],by simp [ah,dsOf,hd,t.dat,iS],by simp [ah,fpL,tF,t.fp],by simp [ah,flatL,fw,t.flat],by simp [ah,hg,t.good],fun a b=>by simp [ah,kCs,kC,t.kill],fun i m x=>by simp [ah,fCs,fC,t.frz],by simp [ah,ownsC,t.owns],by simp [ah,t.len]⟩
theorem aA {F G:List Nat} (h:∀x,F.count x≤G.count x):Sb F G:=h
end Go.Cv
set_option maxRecDepth 8000
namespace Go.Proofs.YteffjmaadkkmeaaGreatDoor
open Go Go.Dv
open Go.Vc (D eb ec dK bN)
structure Tok where
 kind:Int
 text:ByteArray
 at_:Int
def Tok.row (t:Tok):List D:=[int t.kind,str t.text,int t.at_]
theorem Tok.row_len (t:Tok):t.row.length=3:=rfl
theorem Tok.tk (t:Tok) (r:List D):eA 3 (t.row++r)=some t.row:=eS rfl
theorem Tok.ne (t:Tok) (r:List D):t.row++r≠[]:=fun h=>by cases h
theorem Tok.ds (t:Tok):dsOf (an t.row)=some (t.row,some []):=rfl
def signs:List ByteArray:=[⟨#[40]⟩,⟨#[41]⟩,⟨#[44]⟩,⟨#[46]⟩,⟨#[42]⟩,⟨#[43]⟩,⟨#[45]⟩,⟨#[47]⟩,⟨#[37]⟩,⟨#[61]⟩,⟨#[60,62]⟩,⟨#[60]⟩,⟨#[60,61]⟩,⟨#[62]⟩,⟨#[62,61]⟩,⟨#[124,124]⟩]
def ii (s:ByteArray):Bool:=signs.any fun x=>decide (s=x)
theorem uG (s:ByteArray):Cl Tryz.prog 180 [vs s] [] fun r _=>r=vb (ii s):=by
 refine ab aa false Tryz.func180 rfl (by kernel_rfl) ?_
 simp only[Tryz.f180,tt,seval]
 all_goals repeat' first|(refine And.intro (fun h=>?_) (fun h=>?_)<;>try simp only[tt,seval])|(intro _;try simp only[tt,seval])
 all_goals first|contradiction|exact⟨_,_,aE (by simp [ii,signs, *]),ac rfl⟩
theorem xK:Cl Tryz.prog 237 [] [] fun r _=>r = .c (.sl 16 (signs.flatMap srow) none):=by
 refine ab aa false Tryz.func237 rfl (by kernel_rfl) ?_
 simp only[tt,seval,Tryz.f237]
 refine⟨_,[],rfl,aj ?_⟩
 simp only[tt,seval,signs,srow]
theorem zf (s:ByteArray):decide (0≤nq s signs)=ii s:=by
 unfold nq ii
 by_cases h:signs.findIdx (fun w=>decide (w=s))<signs.length
 ·rw[if_pos h]
  have:=List.findIdx_getElem (w:=h)
  have hm:=List.getElem_mem h
  refine (decide_eq_true (by omega)).trans (Eq.symm ?_)
  rw[List.any_eq_true]
  exact⟨_,hm,by simpa [eq_comm] using this⟩
 ·rw[if_neg h]
  refine (decide_eq_false (by omega)).trans (Eq.symm ?_)
  rw[List.any_eq_false]
  intro x hx
  have:=List.findIdx_lt_length (xs:=signs) (p:=fun w=>decide (w=s))
  simp only[h,false_iff,not_exists,not_and] at this
  simpa [eq_comm] using this x hx
theorem wR (s:ByteArray):Cl Tryz.prog 304 [.c (.sl 16 (signs.flatMap srow) none),vs s] [] fun r _=>r=vb (ii s):=by
 refine ab aa false Tryz.func304 rfl (by kernel_rfl) ?_
 simp only[Tryz.f304,tt,seval]
 refine cZ (xH signs s) (by decide) ?_ ?_<;>simp only[tt,seval,show signs.length=16 from rfl]
 exact⟨_,_,aE (by rw[←zf]),ac rfl⟩
theorem zg (s:ByteArray):Cl Tryz.prog 268 [vs s] [] fun r _=>r=vb (ii s):=by
 refine ab aa false Tryz.func268 rfl (by kernel_rfl) ?_
 simp only[Tryz.f268,tt,seval]
 refine cZ (xK) (by decide) ?_ ?_<;>simp only[tt,seval]
 refine cZ (wR s) (by decide) ?_ ?_<;>simp only[tt,seval]
 exact⟨_,_,rfl,ac rfl⟩
def Eg:List ByteArray:=⟨#[]⟩::[⟨#[79,82]⟩,⟨#[65,78,68]⟩,⟨#[61]⟩,⟨#[60,62]⟩,⟨#[60]⟩,⟨#[60,61]⟩,⟨#[62]⟩,⟨#[62,61]⟩,⟨#[124,124]⟩,⟨#[43]⟩,⟨#[45]⟩,⟨#[42]⟩,⟨#[47]⟩,⟨#[37]⟩,⟨#[78,79,84]⟩,⟨#[45]⟩]
def tq (k:Int):ByteArray:=if 1≤k∧k≤16 then Eg.getD k.toNat ⟨#[]⟩ else ⟨#[]⟩
def kw (k:Nat):ByteArray:=pc.getD k ⟨#[]⟩
theorem aN {α:Type} {row:α→List D} {w:Nat} {l:List α} {i:Nat} {x:α} (hx:l[i]?=some x) (hl:∀x,(row x).length=w+1) (C:List D→Prop):(∃ds',(l.flatMap row).drop (i*(w+1))=ds' ∧ ¬ds'=[]∧C ds')=C (row x++(l.drop (i+1)).flatMap row):=by
 rw[ax hl hx]
 exact propext ⟨fun ⟨_,h1,_,h3⟩=>h1▸h3,fun h=>⟨_,rfl,fun h0=>by have:=congrArg List.length h0;rw[List.length_append,hl] at this;simp at this,h⟩⟩
end Go.Proofs.YteffjmaadkkmeaaGreatDoor
set_option maxRecDepth 8000
namespace Go.Proofs.YteffjmaadkkmeaaGreatDoor
open Go Go.Dv
open Go.Vc (D eb ec dK bN)
open Go.RowKit (Below)
theorem zh (k:Nat) (h1:1≤k) (h2:k≤28):Cl Tryz.prog 161 [vi k] [] fun r _=>r=vs (kw k):=by
 refine ab aa false Tryz.func161 rfl (by kernel_rfl) ?_
 simp only[Tryz.f161,tt,seval]
 refine cZ (dO k 1 28) (by decide) ?_ ?_<;>simp only[tt,seval]
 simp only[tt,seval,decide_eq_true (show (1:Int)≤k∧(k:Int)≤28 by omega)]
 refine cZ (rR) (by decide) ?_ ?_<;>simp only[tt,seval]
 have hlt:k<pc.length:=by show _<29;omega
 refine⟨by omega,by omega,_,ax dB (List.getElem?_eq_getElem hlt),jc _ _,?_⟩
 simp only[tt,seval,gO,srow]
 exact⟨_,_,wJ (by rw[kw,List.getD_eq_getElem?_getD,List.getElem?_eq_getElem hlt];rfl),ac rfl⟩
theorem Ck:([.lit (.string ⟨#[]⟩),.lit (.string ⟨#[79,82]⟩),.lit (.string ⟨#[65,78,68]⟩),.lit (.string ⟨#[61]⟩),.lit (.string ⟨#[60,62]⟩),.lit (.string ⟨#[60]⟩),.lit (.string ⟨#[60,61]⟩),.lit (.string ⟨#[62]⟩),.lit (.string ⟨#[62,61]⟩),.lit (.string ⟨#[124,124]⟩),.lit (.string ⟨#[43]⟩),.lit (.string ⟨#[45]⟩),.lit (.string ⟨#[42]⟩),.lit (.string ⟨#[47]⟩),.lit (.string ⟨#[37]⟩),.lit (.string ⟨#[78,79,84]⟩),.lit (.string ⟨#[45]⟩)]:List D)=Eg.flatMap srow:=rfl
theorem Ac:([.lit (.string ⟨#[79,82]⟩),.lit (.string ⟨#[65,78,68]⟩),.lit (.string ⟨#[61]⟩),.lit (.string ⟨#[60,62]⟩),.lit (.string ⟨#[60]⟩),.lit (.string ⟨#[60,61]⟩),.lit (.string ⟨#[62]⟩),.lit (.string ⟨#[62,61]⟩),.lit (.string ⟨#[124,124]⟩),.lit (.string ⟨#[43]⟩),.lit (.string ⟨#[45]⟩),.lit (.string ⟨#[42]⟩),.lit (.string ⟨#[47]⟩),.lit (.string ⟨#[37]⟩),.lit (.string ⟨#[78,79,84]⟩),.lit (.string ⟨#[45]⟩)]:List D)=Eg.tail.flatMap srow:=rfl
theorem nw (k:Int):Cl Tryz.prog 220 [vi k] [] fun r _=>r=vs (tq k):=by
 refine ab aa false Tryz.func220 rfl (by kernel_rfl) ?_
 simp only[Tryz.f220,tt,seval]
 refine cZ (dO k 1 16) (by decide) ?_ ?_<;>simp only[tt,seval]
 refine And.intro (fun hc=>?_) (fun hc=>?_)
 ·exact⟨_,_,wJ (by rw[tq,if_neg (by simpa only[Bool.not_eq_true',decide_eq_false_iff_not] using hc)]),ac rfl⟩
 ·have hc:1≤k∧k≤16:=by simpa only[Bool.not_eq_false',decide_eq_true_eq] using hc
  have hlt:k.toNat<Eg.length:=by show _<17;omega
  try simp only[tt,seval]
  refine⟨by omega,by omega,?_⟩
  rw[Ck,ax dB (List.getElem?_eq_getElem hlt)]
  simp only[tt,seval,gO,srow]
  exact⟨_,_,wJ (by rw[tq,if_pos hc,List.getD_eq_getElem?_getD,List.getElem?_eq_getElem hlt];rfl),ac rfl⟩
theorem oL (k:Int):Cl Tryz.prog 222 [vi k] [] fun r _=>r=vs (tq k):=by
 refine ab aa false Tryz.func222 rfl (by kernel_rfl) ?_
 simp only[Tryz.f222,tt,seval]
 by_cases h1:k<1
 ·simp only[tt,seval,decide_eq_true h1]
  exact⟨_,_,wJ (by rw[tq,if_neg (by omega)]),ac rfl⟩
 ·simp only[tt,seval,decide_eq_false h1]
  refine And.intro (fun h2=>?_) (fun h2=>?_)
  ·exact⟨_,_,wJ (by rw[tq,if_neg (by omega)]),ac rfl⟩
  ·have hc:1≤k∧k≤16:=by omega
   have hlt:(k-1).toNat<Eg.tail.length:=by show _<16;omega
   rw[ak (n:=k-1) (by omega) (by omega)]
   refine⟨by omega,by omega,?_⟩
   rw[Ac,ax dB (List.getElem?_eq_getElem hlt)]
   simp only[tt,seval,gO,srow]
   have hlt':k.toNat<Eg.length:=by show _<17;omega
   refine⟨_,_,wJ ?_,ac rfl⟩
   rw[tq,if_pos hc,List.getD_eq_getElem?_getD,List.getElem?_eq_getElem hlt']
   simp only[List.getElem_tail,Option.getD_some,show (k-1).toNat+1=k.toNat by omega]
theorem xL:Tryz.prog.underlying 203=some (.interface (Tryz.prog.methodsAt 203)):=by kernel_rfl
theorem Cm {n:Nat} {d:Option Nat} {K:K0} {f:Rg} {L:Ob} {p:Po} {x:Operand}:bW Tryz.prog n d (do eqGuard .neq 203 x (.const .nilIface) .nilIface .nilIface;binOp .neq 203 .nilIface .nilIface) K f L p=K (put n f d (.c (.v (.bool false)))) L p:=
 bq (fun w=>by rw[Sem.run_bind];simp [eqGuard,run_neq_nil_nil w 203 xL]) trivial
theorem DG {n:Nat} {d:Option Nat} {K:K0} {f:Rg} {L:Ob} {p:Po} {x y:Operand} {u:TypeId} {v:Value}:bW Tryz.prog n d (do eqGuard .neq 203 x y (.iface u v) .nilIface;binOp .neq 203 (.iface u v) .nilIface) K f L p=K (put n f d (.c (.v (.bool true)))) L p:=
 bq (fun w=>by rw[Sem.run_bind];simp [eqGuard,run_neq_held_nil w 203 u v xL]) trivial
theorem Cn {w:World} {own:Nat→Prop} (h:GlW w own):(∃v,w.cell? ⟨1,0,none⟩=some v∧(v = .nilIface∨∃t p,v = .iface t p))∧(∃v,w.cell? ⟨2,0,none⟩=some v∧(v = .nilIface∨∃t p,v = .iface t p)):=by
 constructor
 ·obtain⟨_,cs,ty,lh,h2,v,h3,h4⟩:=h _ (List.mem_cons_of_mem _ (List.mem_cons_of_mem _ (List.mem_cons_self)))
  exact⟨v,by simp only[World.cell?,h2];exact h3,h4⟩
 ·obtain⟨_,cs,ty,lh,h2,v,h3,h4⟩:=h _ (List.mem_cons_of_mem _ (List.mem_cons_of_mem _ (List.mem_cons_of_mem _ (List.mem_cons_self))))
  exact⟨v,by simp only[World.cell?,h2];exact h3,h4⟩
def Eo (s:ByteArray) (r:S):Prop:=∃n e,r = .tu [([.v (.int .i64 n)],true),([.v e],true)]∧((e = .nilIface∧Lib.atoiAll s.data.toList = .ok n)∨((∃t p,e = .iface t p)∧∀v,Lib.atoiAll s.data.toList ≠ .ok v))
theorem DH (s:ByteArray) (hs:s.size≤1048576):Cl Tryz.prog 226 [vs s] [] fun r _=>Eo s r:=
 Cl.ofNew (by kernel_rfl) [.string s] fun w hg=>by
  obtain⟨⟨ev,h4,h4'⟩,⟨ev',h5,h5'⟩⟩:=Cn hg
  rcases ha:Lib.atoiAll s.data.toList with v|_|_
  ·skip
   refine (Any.strconv_Atoi_ok Tryz.laysC172 s (by omega) v ha w).mono ?_
   rintro e w' ⟨rfl,hw⟩
   refine⟨_,.tu [([.v (.int .i64 v)],true),([.v .nilIface],true)],rfl,⟨v,_,rfl,.inl ⟨rfl,ha⟩⟩,rfl,fun β=>⟨_,rfl,⟨⟨rfl,trivial⟩,trivial⟩,⟨⟨rfl,trivial⟩,trivial⟩,trivial⟩,?_⟩
   rcases hw with rfl|⟨t,rfl⟩
   ·exact Below.refl _ _
   ·exact Lib.bytesWorld_below _ _ _
  ·refine (Any.strconv_Atoi_syntax Tryz.laysC172 s (by omega) ha ev w h4 h4').mono ?_
   rintro e w' ⟨N,rfl,_,_,hb⟩
   exact⟨_,.tu [([.v (.int .i64 _)],true),([.v (.iface _ _)],true)],rfl,⟨_,_,rfl,.inr ⟨⟨_,_,rfl⟩,fun v h=>by rw[ha] at h;cases h⟩⟩,rfl,fun β=>⟨_,rfl,⟨⟨rfl,trivial⟩,trivial⟩,⟨⟨rfl,trivial⟩,trivial⟩,trivial⟩,hb⟩
  ·refine (Any.strconv_Atoi_range Tryz.laysC172 s (by omega) ha ev' w h5 h5').mono ?_
   rintro e w' ⟨N,rfl,_,_,hb⟩
   exact⟨_,.tu [([.v (.int .i64 _)],true),([.v (.iface _ _)],true)],rfl,⟨_,_,rfl,.inr ⟨⟨_,_,rfl⟩,fun v h=>by rw[ha] at h;cases h⟩⟩,rfl,fun β=>⟨_,rfl,⟨⟨rfl,trivial⟩,trivial⟩,⟨⟨rfl,trivial⟩,trivial⟩,trivial⟩,hb⟩
def nx (s:ByteArray):Bool:=(jy s.data.toList).isSome
def ku (s:ByteArray):Int:=((jy s.data.toList).getD 0:Nat)
def mp (s:ByteArray):S:=.tu [([.v (.int .i64 (ku s))],true),([.v (.bool (nx s))],true)]
theorem rZ (s:ByteArray) (hs:s.size≤1048576):Cl Tryz.prog 169 [vs s] [] fun r _=>r=mp s:=by
 refine ab aa false Tryz.func169 rfl (by kernel_rfl) ?_
 simp only[Tryz.f169,tt,seval]
 refine fc (DH s hs) ?_ ?_ ?_
 ·decide
 ·simp only[tt,seval]
 rintro r ⟨n,e,rfl,hh⟩
 simp only[tt,seval]
 rcases hh with⟨rfl,ha⟩|⟨⟨tt',pp,rfl⟩,hne⟩
 ·rw[Cm]
  simp only[tt,seval]
  have hb:=Lib.atoiAll_bounds ha
  by_cases hn:n<0
  ·simp only[tt,seval,decide_eq_true hn]
   have hno:jy s.data.toList=none:=by
    cases hc:jy s.data.toList with
    |none=>rfl
    |some m=>have:=oH hc;rw[ha] at this;injection this;omega
   exact⟨_,_,by rw[mp,ku,nx,hno];rfl,ac rfl⟩
  ·simp only[tt,seval,decide_eq_false hn]
   refine cZ (yY n (by omega) (by omega)) (by decide) ?_ ?_<;>simp only[tt,seval]
   refine And.intro (fun he=>?_) (fun he=>?_)
   ·have he':¬iJ n=s:=by simpa only[Bool.not_eq_true',decide_eq_false_iff_not] using he
    have hno:jy s.data.toList=none:=by
     cases hc:jy s.data.toList with
     |none=>rfl
     |some m=>
      have h1:=oH hc
      obtain⟨_,h2⟩:=fP.1 hc
      rw[ha] at h1
      injection h1 with h1
      refine absurd (oF ?_) he'
      rw[iJ,h1,qc,h2]
    exact⟨_,_,by rw[mp,ku,nx,hno];rfl,ac rfl⟩
   ·have he':iJ n=s:=by simpa only[Bool.not_eq_false',decide_eq_true_eq] using he
    have hc:=yZ ha (by omega) (by rw[←he'];rfl)
    exact⟨_,_,by rw[mp,ku,nx,hc];simp only[Option.getD_some,Option.isSome_some,Int.toNat_of_nonneg (show 0≤n by omega)],ac rfl⟩
 ·rw[DG]
  simp only[tt,seval]
  have hno:jy s.data.toList=none:=by
   cases hc:jy s.data.toList with
   |none=>rfl
   |some m=>exact absurd (oH hc) (hne _)
  exact⟨_,_,by rw[mp,ku,nx,hno];rfl,ac rfl⟩
theorem ny (s:ByteArray) (hs:s.size≤1048576):Cl Tryz.prog 99 [vs s] [] fun r _=>r=mp s:=by
 obtain⟨l,hl⟩:∃l,l=s.data.toList:=⟨_,rfl⟩
 have hll:l.length=s.size:=by rw[hl];exact bS s
 refine ab aa false Tryz.func99 rfl (by kernel_rfl) ?_
 simp only[Tryz.f99,tt,seval]
 refine fun _=>?_
 have none_of (h:jy l=none):mp s = .tu [([.v (.int .i64 0)],true),([.v (.bool false)],true)]:=by rw[mp,ku,nx,←hl,h];rfl
 have fin0 (h:jy l=none) {L:Ob} {p:Po}:∃r objs,r=mp s∧EndOk L p (.tu [([.v (.int .i64 0)],true),([.v (.bool false)],true)]) r 0 objs:=⟨_,[],rfl,by rw[none_of h];exact ac rfl⟩
 by_cases hs1:(s.size:Int)<1
 ·simp only[tt,seval,decide_eq_true hs1]
  exact fin0 (by
   cases hc:jy l with
   |none=>rfl
   |some m=>
    obtain⟨_,h2⟩:=fP.1 hc
    obtain⟨b,r,h3,_⟩:=ld m
    have:l.length=0:=by omega
    rw[←h2,h3] at this;simp at this)
 ·simp only[tt,seval,decide_eq_false hs1]
  refine fun _=>And.intro (fun hs2=>?_) (fun hs2=>?_)
  ·exact fin0 (by
    cases hc:jy l with
    |none=>rfl
    |some m=>
     obtain⟨h1,h2⟩:=fP.1 hc
     have:=fE m 18 (by omega)
     rw[h2] at this;omega)
  ·skip
   refine dLoop.intro (fun f' L p=>∃i n:Nat,f' 5=vi i∧f' 4=vi n∧i≤l.length∧Lib.decFrom 0 (l.take i)=some n∧n≤9223372036854775807∧L=[]∧p=none) (fun f' _ _=>(s.size-bn (f' 5)).toNat) [] none ⟨SubO.nil _,PoSub.none _,?_⟩ ?_
   ·simp only[tt,seval]
    exact⟨0,0,rfl,rfl,by omega,rfl,by omega⟩
   ·rintro g L p ⟨i,n,h5,h4,hi,hd,hn,rfl,rfl⟩
    simp only[tt,seval] at h5 h4
    simp only[tt,seval,h5,h4,Int.ofNat_lt]
    refine fun _=>And.intro (fun hlt=>?_) (fun hge=>?_)
    ·have hil:i<l.length:=by omega
     have hget:l[i]?=some l[i]:=List.getElem?_eq_getElem hil
     rw[dM hl hil]
     simp only[tt,seval,h5,h4]
     have dn (h:¬(48≤l[i].toNat∧l[i].toNat≤57)):jy l=none:=by
      unfold jy
      rw[tl hget (by unfold Lib.digitVal;rw[if_neg h]) 0]
     by_cases hb:(l[i].toNat:Int)<48
     ·simp only[tt,seval,decide_eq_true hb]
      exact fin0 (dn (by omega))
     ·simp only[tt,seval,decide_eq_false hb,h5,h4]
      rw[dM hl hil]
      simp only[tt,seval,h5,h4]
      refine And.intro (fun hb2=>?_) (fun hb2=>?_)
      ·exact fin0 (dn (by omega))
      ·try simp only[tt,seval,h5,h4]
       rw[dM hl hil]
       simp only[tt,seval,h5,h4]
       have hbb:48≤l[i].toNat∧l[i].toNat≤57:=by omega
       obtain⟨d,hd48⟩:∃d:Nat,l[i].toNat=48+d:=⟨l[i].toNat-48,by omega⟩
       have hd9:d≤9:=by omega
       have hdv:Lib.digitVal l[i]=some d:=by unfold Lib.digitVal;rw[if_pos hbb,hd48];congr 1;omega
       have hsn:Lib.decFrom 0 (l.take (i+1))=some (n*10+d):=by rw[List.take_succ_eq_append_getElem hil,io,hd,hdv]
       rw[hd48,ak (n:=((48+d:Nat):Int)) (by omega) (by omega),ak (n:=((48+d:Nat):Int)-48) (by omega) (by omega),ak (n:=9223372036854775807-(((48+d:Nat):Int)-48)) (by omega) (by omega)]
       have ht:(9223372036854775807-(((48+d:Nat):Int)-48)).tdiv 10=(((9223372036854775807-d) / 10:Nat):Int):=by
        rw[Int.tdiv_eq_ediv_of_nonneg (by omega)];omega
       rw[ht,ak (n:=(((9223372036854775807-d) / 10:Nat):Int)) (by omega) (by omega)]
       refine And.intro (fun ho=>?_) (fun ho=>?_)
       ·exact fin0 (by
         cases hc:jy l with
         |none=>rfl
         |some m=>
          obtain⟨h1,h2⟩:=fP.1 hc
          have hm:=iK m
          rw[h2] at hm
          have hsp:∀(a b:List UInt8) (acc:Nat),Lib.decFrom acc (a++b)=(Lib.decFrom acc a).bind fun x=>Lib.decFrom x b:=by
           intro a
           induction a with
           |nil=>intro b acc;rfl
           |cons c r ih=>
            intro b acc
            simp only[List.cons_append,Lib.decFrom]
            cases Lib.digitVal c with
            |none=>rfl
            |some d=>exact ih b _
          have:=hsp (l.take (i+1)) (l.drop (i+1)) 0
          rw[List.take_append_drop,hm,hsn] at this
          have:=mN _ _ _ this.symm
          omega)
       ·rw[ak (n:=10*(n:Int)) (by omega) (by omega),ak (n:=10*(n:Int)+(((48+d:Nat):Int)-48)) (by omega) (by omega),ak (n:=(i:Int)+1) (by omega) (by omega)]
        exact⟨[],none,SubO.nil _,PoSub.none _,⟨i+1,n*10+d,by simp,eX (by omega),by omega,hsn,by omega,rfl,rfl⟩,by simp only[bn];omega⟩
    ·have:i=l.length:=by omega
     subst this
     rw[List.take_length] at hd
     refine cZ (Aa n (by omega) (by omega)) (by decide) ?_ ?_<;>simp only[tt,seval,h5,h4]
     refine And.intro (fun he=>?_) (fun he=>?_)
     ·have he':¬iJ n=s:=by simpa only[Bool.not_eq_true',decide_eq_false_iff_not] using he
      exact fin0 (by
       unfold jy
       rw[hd]
       refine if_neg fun hc=>he' (oF ?_)
       rw[iJ,qc,hc.2,hl])
     ·have he':iJ n=s:=by simpa only[Bool.not_eq_false',decide_eq_true_eq] using he
      have hc:jy l=some n:=fP.2 ⟨by omega,by rw[←qc,hl,←he'];rfl⟩
      exact⟨_,_,by rw[mp,ku,nx,←hl,hc];rfl,ac rfl⟩
end Go.Proofs.YteffjmaadkkmeaaGreatDoor
set_option maxRecDepth 8000
namespace Go.Proofs.YteffjmaadkkmeaaGreatDoor
open Go Go.Dv
open Go.Vc (D eb ec dK bN)
def cj (t:Tok):Bool:=if t.kind=1 then (decide (¬nr t.text=0)&&decide (cM t.text=t.text)) else if t.kind=2 then decide (1≤t.text.size∧t.text.size≤20) else if t.kind=3 then nx t.text else if t.kind=4 then decide (t.text.size≤40) else if t.kind=5 then ii t.text else false
theorem fm (t:Tok) (hs:t.text.size≤1048576):Cl Tryz.prog 181 [.ag (an t.row)] [] fun r _=>r=vb (cj t):=by
 rw[Tok.row]
 refine ab aa false Tryz.func181 rfl (by kernel_rfl) ?_
 simp only[Tryz.f181,tt,seval]
 refine And.intro (fun h1=>?_) (fun h1=>?_)
 ·skip
  refine dDrawn.intro [] (gG [0,2,5,6,8,10,12,16,18,15,20,22,24]) (by kernel_rfl) ?_
  simp only[tt,seval]
  refine cZ (xI t.text hs) (by decide) ?_ ?_<;>simp only[tt,seval,Tok.row]
  have hk:=wP t.text
  have hgt:decide ((0:Int)<nr t.text)=decide (¬nr t.text=0):=by rw[decide_eq_decide];omega
  by_cases hz:nr t.text=0
  ·simp only[tt,seval,hgt,decide_eq_true hz,decide_eq_false (not_not_intro hz)]
   exact⟨_,_,aE (by rw[cj,if_pos h1,decide_eq_false (not_not_intro hz)];rfl),ac rfl⟩
  ·simp only[tt,seval,hgt,decide_eq_false hz,decide_eq_true hz]
   refine cZ (wK t.text hs) (by decide) ?_ ?_<;>simp only[tt,seval,Tok.row]
   exact⟨_,_,aE (by rw[cj,if_pos h1,decide_eq_true hz];rfl),ac rfl⟩
 ·try simp only[tt,seval]
  refine And.intro (fun h2=>?_) (fun h2=>?_)
  ·skip
   refine cZ (jN t.text) (by decide) ?_ ?_<;>simp only[tt,seval,Tok.row]
   exact⟨_,_,aE (by rw[cj,if_neg h1,if_pos h2]),ac rfl⟩
  ·try simp only[tt,seval]
   refine And.intro (fun h3=>?_) (fun h3=>?_)
   ·skip
    refine cZ (ny t.text hs) (by decide) ?_ ?_<;>simp only[tt,seval,Tok.row,mp]
    exact⟨_,_,aE (by rw[cj,if_neg h1,if_neg h2,if_pos h3]),ac rfl⟩
   ·try simp only[tt,seval]
    refine And.intro (fun h4=>?_) (fun h4=>?_)
    ·try simp only[tt,seval]
     refine fun _=>?_
     exact⟨_,_,aE (by rw[cj,if_neg h1,if_neg h2,if_neg h3,if_pos h4];simp only[decide_eq_decide];omega),ac rfl⟩
    ·try simp only[tt,seval]
     refine And.intro (fun h5=>?_) (fun h5=>?_)
     ·skip
      refine cZ (uG t.text) (by decide) ?_ ?_<;>simp only[tt,seval,Tok.row]
      exact⟨_,_,aE (by rw[cj,if_neg h1,if_neg h2,if_neg h3,if_neg h4,if_pos h5]),ac rfl⟩
     ·exact⟨_,_,aE (by rw[cj,if_neg h1,if_neg h2,if_neg h3,if_neg h4,if_neg h5]),ac rfl⟩
theorem ed (t:Tok) (hs:t.text.size≤1048576):Cl Tryz.prog 225 [.ag (an t.row)] [] fun r _=>r=vb (cj t):=by
 rw[Tok.row]
 refine ab aa false Tryz.func225 rfl (by kernel_rfl) ?_
 simp only[Tryz.f225,tt,seval]
 refine And.intro (fun h1=>?_) (fun h1=>?_)
 ·skip
  refine dDrawn.intro [] (gG [0,2,5,6,8,10,12,16,18,15,20,22,24]) (by kernel_rfl) ?_
  simp only[tt,seval]
  refine cZ (pZ t.text hs) (by decide) ?_ ?_<;>simp only[tt,seval,Tok.row]
  have hk:=wP t.text
  have hgt:True:=trivial
  by_cases hz:nr t.text=0
  ·simp only[tt,seval,hgt,decide_eq_true hz,decide_eq_false (not_not_intro hz)]
   exact⟨_,_,aE (by rw[cj,if_pos h1,decide_eq_false (not_not_intro hz)];rfl),ac rfl⟩
  ·simp only[tt,seval,hgt,decide_eq_false hz,decide_eq_true hz]
   refine cZ (pI t.text hs) (by decide) ?_ ?_<;>simp only[tt,seval,Tok.row]
   exact⟨_,_,aE (by rw[cj,if_pos h1,decide_eq_true hz];rfl),ac rfl⟩
 ·try simp only[tt,seval]
  refine And.intro (fun h2=>?_) (fun h2=>?_)
  ·skip
   refine cZ (gy t.text) (by decide) ?_ ?_<;>simp only[tt,seval,Tok.row]
   exact⟨_,_,aE (by rw[cj,if_neg h1,if_pos h2]),ac rfl⟩
  ·try simp only[tt,seval]
   refine And.intro (fun h3=>?_) (fun h3=>?_)
   ·skip
    refine cZ (rZ t.text hs) (by decide) ?_ ?_<;>simp only[tt,seval,Tok.row,mp]
    exact⟨_,_,aE (by rw[cj,if_neg h1,if_neg h2,if_pos h3]),ac rfl⟩
   ·try simp only[tt,seval]
    refine And.intro (fun h4=>?_) (fun h4=>?_)
    ·try simp only[tt,seval]
     refine fun _=>?_
     exact⟨_,_,aE (by rw[cj,if_neg h1,if_neg h2,if_neg h3,if_pos h4];simp only[decide_eq_decide];omega),ac rfl⟩
    ·try simp only[tt,seval]
     refine And.intro (fun h5=>?_) (fun h5=>?_)
     ·skip
      refine cZ (zg t.text) (by decide) ?_ ?_<;>simp only[tt,seval,Tok.row]
      exact⟨_,_,aE (by rw[cj,if_neg h1,if_neg h2,if_neg h3,if_neg h4,if_pos h5]),ac rfl⟩
     ·exact⟨_,_,aE (by rw[cj,if_neg h1,if_neg h2,if_neg h3,if_neg h4,if_neg h5]),ac rfl⟩
def Expr.kind:Expr→Int | .mk k _ _ _ _ _ _ _=>k
def Expr.op:Expr→Int | .mk _ o _ _ _ _ _ _=>o
def Expr.kids:Expr→List Expr | .mk _ _ _ _ _ _ k _=>k
def Expr.sub:Expr→List Query | .mk _ _ _ _ _ _ _ s=>s
def bl (op:Int):Int:=if op=1 then 1 else if op=2 then 2 else if 3≤op∧op≤8 then 4 else if op=9 then 5 else if op=10∨op=11 then 6 else if 12≤op∧op≤14 then 7 else 0
def lv (k op:Int):Int:=if k=4 then bl op else if k=3 then (if op=15 then 3 else if op=16 then 8 else 0) else if 5≤k∧k≤8 then 4 else if k=1∨k=2∨k=9 then 9 else 0
def EP (e:Expr):Int:=lv e.kind e.op
def EW:List Int:=[0,1,2,4,4,4,4,4,4,5,6,6,7,7,7]
theorem Co:([.lit (.int .i64 0),.lit (.int .i64 1),.lit (.int .i64 2),.lit (.int .i64 4),.lit (.int .i64 4),.lit (.int .i64 4),.lit (.int .i64 4),.lit (.int .i64 4),.lit (.int .i64 4),.lit (.int .i64 5),.lit (.int .i64 6),.lit (.int .i64 6),.lit (.int .i64 7),.lit (.int .i64 7),.lit (.int .i64 7)]:List D)=EW.flatMap irow:=rfl
theorem Ad (n:Int):(irow n).length=1:=rfl
theorem Cp (v:Int) (r:List D):eA 1 (irow v++r)=some (irow v):=eS rfl
theorem Cq:∀n:Fin 15,1≤n.1→EW[n.1]'n.2=bl n.1:=by decide
theorem zi (e:Expr):Cl Tryz.prog 156 [.ag (an e.row)] [] fun r _=>r=vi (EP e):=by
 obtain⟨kind,op,not,val,qual,name,kids,sub⟩:=e
 rw[Expr.row_mk,EP,Expr.kind,Expr.op]
 refine ab aa false Tryz.func156 rfl (by kernel_rfl) ?_
 simp only[Tryz.f156,tt,seval]
 all_goals repeat' first|(refine And.intro (fun h=>?_) (fun h=>?_)<;>try simp only[tt,seval])|(intro _;try simp only[tt,seval])
 all_goals first|contradiction|exact⟨_,_,eX (by unfold lv;(repeat' split)<;>omega),ac rfl⟩|skip
 have h4:kind=4:=by assumption
 refine cZ (dO op 1 14) (by decide) ?_ ?_<;>simp only[tt,seval]
 refine And.intro (fun hc=>?_) (fun hc=>?_)
 ·have hc:1≤op∧op≤14:=by simpa only[decide_eq_true_eq] using hc
  have hlt:op.toNat<EW.length:=by show _<15;omega
  try simp only[tt,seval]
  refine⟨by omega,by omega,?_⟩
  rw[Co,ax Ad (List.getElem?_eq_getElem hlt)]
  simp only[tt,seval,Cp,irow]
  exact⟨_,_,eX (by rw[lv,if_pos h4];exact (Cq ⟨op.toNat,hlt⟩ (by show 1≤op.toNat;omega)).trans (congrArg bl (Int.toNat_of_nonneg (show 0≤op by omega)))),ac rfl⟩
 ·exact⟨_,_,eX (by rw[lv,if_pos h4];unfold bl;have:¬(1≤op∧op≤14):=(by simpa only[decide_eq_false_iff_not,decide_eq_true_eq] using hc);(repeat' split)<;>omega),ac rfl⟩
mutual
inductive ERow where
 |mk (l:List Expr)
end
mutual
def ERow.row:ERow→List D
 |.mk l=>.sl l.length (l.flatMap Expr.row)::[]
end
theorem ERow.row_mk (l:List Expr):(ERow.mk l).row = .sl l.length (l.flatMap Expr.row)::[]:=by rw[ERow.row]
theorem ERow.row_len (x:ERow):x.row.length=1:=by cases x;simp [ERow.row]
theorem ERow.tk (x:ERow) (r:List D):eA 1 (x.row++r)=some x.row:=eS (ERow.row_len x)
theorem ERow.ne (x:ERow) (r:List D):x.row++r≠[]:=fun h=>by have:=congrArg List.length h;simp [ERow.row_len] at this
mutual
def hZ:ERow→Nat
 |.mk l=>dL l
end
theorem s8 (l:List Expr):hZ (.mk l)=dL l:=by rw[hZ]
def lU (l:List ERow):Nat:=l.length+(l.map hZ).sum
theorem gz (l:List ERow):lU l=l.length+(l.map hZ).sum:=rfl
def jh (l:List ByteArray):Nat:=l.length+(l.map ByteArray.size).sum
mutual
inductive Stmt where
 |mk (kind:Int) (query:Query) (table:ByteArray) (rows:List ERow) (cols:List ByteArray) (sets:List Expr) (where_:List Expr)
end
mutual
def Stmt.row:Stmt→List D
 |.mk kind query table rows cols sets where_=>int kind::(query.row++str table :: .sl rows.length (rows.flatMap ERow.row) :: .sl cols.length (cols.flatMap srow) :: .sl sets.length (sets.flatMap Expr.row) :: .sl where_.length (where_.flatMap Expr.row)::[])
end
theorem Stmt.row_mk (kind:Int) (query:Query) (table:ByteArray) (rows:List ERow) (cols:List ByteArray) (sets:List Expr) (where_:List Expr):(Stmt.mk kind query table rows cols sets where_).row=int kind::(query.row++str table :: .sl rows.length (rows.flatMap ERow.row) :: .sl cols.length (cols.flatMap srow) :: .sl sets.length (sets.flatMap Expr.row) :: .sl where_.length (where_.flatMap Expr.row)::[]):=by rw[Stmt.row]
theorem Stmt.row_len (x:Stmt):x.row.length=12:=by cases x;simp [Stmt.row,Query.row_len]
mutual
def eL:Stmt→Nat
 |.mk kind query table rows cols sets where_=>aW query+(table.size+(lU rows+(jh cols+(dL sets+(dL where_)))))
end
theorem gA (kind:Int) (query:Query) (table:ByteArray) (rows:List ERow) (cols:List ByteArray) (sets:List Expr) (where_:List Expr):eL (.mk kind query table rows cols sets where_)=aW query+(table.size+(lU rows+(jh cols+(dL sets+(dL where_))))):=by rw[eL]
def ERow.l:ERow→List Expr | .mk l=>l
theorem mz (x:ERow):x.row=[.sl x.l.length (x.l.flatMap Expr.row)]:=by obtain⟨l⟩:=x;rw[ERow.row_mk];rfl
theorem jP (x:ERow):hZ x=dL x.l:=by obtain⟨l⟩:=x;rw[s8];rfl
theorem Ae (x:ERow):Cl Tryz.prog 45 [.c (.sl (x).l.length ((x).l.flatMap Expr.row) none),.c (.sl (x).l.length ((x).l.flatMap Expr.row) none)] [] fun r _=>r=vb true:=oK x.l
theorem tw (a:List ERow) (hx:∀x∈a,Cl Tryz.prog 45 [.c (.sl (x).l.length ((x).l.flatMap Expr.row) none),.c (.sl (x).l.length ((x).l.flatMap Expr.row) none)] [] fun r _=>r=vb true):Cl Tryz.prog 66 [.c (.sl a.length (a.flatMap ERow.row) none),.c (.sl a.length (a.flatMap ERow.row) none)] [] fun r _=>r=vb true:=by
 refine ab aa false Tryz.func66 rfl (by kernel_rfl) ?_
 simp only[Tryz.f66,tt,seval]
 refine fun _ _=>?_
 refine dLoop.intro (fun f L p=>∃i:Nat,f 5=vi i∧i≤a.length∧L=[]∧p=none) (fun f _ _=>(a.length-bn (f 5)).toNat) [] none ⟨SubO.nil _,PoSub.none _,?_⟩ ?_
 ·simp only[tt,seval]
  exact⟨0,rfl,by omega⟩
 ·rintro g L p ⟨i,h5,hi,rfl,rfl⟩
  simp only[tt,seval] at h5
  simp only[tt,seval,h5,Int.ofNat_lt]
  refine fun _=>And.intro (fun hlt=>?_) (fun hge=>?_)
  ·have hlt:i<a.length:=by omega
   refine dDrawn.intro [] (gG [0,2,4,6,8,10,12,14,17,18]) (by kernel_rfl) ?_
   simp only[tt,seval]
   simp only[tt,seval,h5]
   refine⟨by omega,by omega,_,ax ERow.row_len (List.getElem?_eq_getElem hlt),ERow.ne _ _,?_⟩
   simp only[tt,seval,h5,ERow.tk,ERow.row_len,mz]
   refine⟨by omega,by omega,_,ax ERow.row_len (List.getElem?_eq_getElem hlt),ERow.ne _ _,?_⟩
   simp only[tt,seval,h5,ERow.tk,ERow.row_len,mz]
   refine fc (hx a[i] (List.getElem_mem hlt)) ?_ ?_ ?_
   ·decide
   ·simp only[tt,seval]
   rintro r rfl
   simp only[tt,seval,h5]
   rw[eE i (by omega)]
   exact⟨[],none,SubO.nil _,PoSub.none _,⟨i+1,rfl,by omega,rfl,rfl⟩,by simp only[bn];omega⟩
  ·exact⟨_,_,rfl,ac rfl⟩
theorem zj (a:List ERow):Cl Tryz.prog 66 [.c (.sl a.length (a.flatMap ERow.row) none),.c (.sl a.length (a.flatMap ERow.row) none)] [] fun r _=>r=vb true:=tw a fun x _=>Ae x
theorem zk (a:List ByteArray):Cl Tryz.prog 67 [.c (.sl a.length (a.flatMap srow) none),.c (.sl a.length (a.flatMap srow) none)] [] fun r _=>r=vb true:=by
 refine ab aa false Tryz.func67 rfl (by kernel_rfl) ?_
 simp only[Tryz.f67,tt,seval]
 refine fun _ _=>?_
 refine dLoop.intro (fun f L p=>∃i:Nat,f 5=vi i∧i≤a.length∧L=[]∧p=none) (fun f _ _=>(a.length-bn (f 5)).toNat) [] none ⟨SubO.nil _,PoSub.none _,?_⟩ ?_
 ·simp only[tt,seval]
  exact⟨0,rfl,by omega⟩
 ·rintro g L p ⟨i,h5,hi,rfl,rfl⟩
  simp only[tt,seval] at h5
  simp only[tt,seval,h5,Int.ofNat_lt]
  refine fun _=>And.intro (fun hlt=>?_) (fun hge=>?_)
  ·have hlt:i<a.length:=by omega
   refine dDrawn.intro [] (gG [0,2,4,6,8,10,12,14,16]) (by kernel_rfl) ?_
   simp only[tt,seval]
   simp only[tt,seval,h5]
   refine⟨by omega,by omega,_,ax dB (List.getElem?_eq_getElem hlt),jc _ _,?_⟩
   simp only[tt,seval,h5,gO,srow]
   refine⟨by omega,by omega,_,ax dB (List.getElem?_eq_getElem hlt),jc _ _,?_⟩
   simp only[tt,seval,h5,gO,srow]
   try rw[eE i (by omega)]
   exact⟨[],none,SubO.nil _,PoSub.none _,⟨i+1,rfl,by omega,rfl,rfl⟩,by simp only[bn];omega⟩
  ·exact⟨_,_,rfl,ac rfl⟩
theorem uH (kind:Int) (query:Query) (table:ByteArray) (rows:List ERow) (cols:List ByteArray) (sets:List Expr) (where_:List Expr)  : Cl Tryz.prog 26 [.ag (an (Stmt.mk kind query table rows cols sets where_).row),.ag (an (Stmt.mk kind query table rows cols sets where_).row)] [] fun r _=>r=vb true:=by
 rw[Stmt.row_mk]
 obtain⟨query_distinct,query_items,query_from_,query_where_,query_order,query_limit⟩:=query
 simp only[Query.row_mk,lc]
 refine ab aa false Tryz.func26 rfl (by kernel_rfl) ?_
 simp only[Tryz.f26,tt,seval]
 refine cZ (oJ (Query.mk query_distinct query_items query_from_ query_where_ query_order query_limit)) (by decide) ?_ ?_<;>simp only[tt,seval,Val.row,lc,Query.row_mk]
 refine cZ (zj rows) (by decide) ?_ ?_<;>simp only[tt,seval,Val.row,lc,Query.row_mk]
 refine cZ (zk cols) (by decide) ?_ ?_<;>simp only[tt,seval,Val.row,lc,Query.row_mk]
 refine cZ (oK sets) (by decide) ?_ ?_<;>simp only[tt,seval,Val.row,lc,Query.row_mk]
 refine cZ (oK where_) (by decide) ?_ ?_<;>simp only[tt,seval,Val.row,lc,Query.row_mk]
 exact⟨_,_,rfl,ac rfl⟩
theorem cc:type_of% (And.intro @Go.Cv.c.eq_1 (And.intro @Go.Cv.c.eq_2 (And.intro @Go.Cv.c.eq_3 (And.intro @Go.Cv.c.eq_4 (And.intro @Go.Cv.c.eq_5 (And.intro @Go.Cv.c.eq_6 (And.intro @Go.Cv.c.eq_7 (And.intro @Go.Cv.c.eq_8 (And.intro @Go.Cv.c.eq_9 (And.intro @Go.Cv.c.eq_10 (And.intro @Go.Cv.c.eq_11 (And.intro @Go.Cv.cl.eq_1 (And.intro @Go.Cv.cl.eq_2 (And.intro @Go.Cv.cg0 (And.intro @Go.Cv.cg1 (And.intro @Go.Cv.cOp.eq_1 (And.intro @Go.Cv.cCall.eq_1 (And.intro @Go.Cv.cLoad.eq_1 (And.intro @Go.Cv.cLoadA.eq_1 (And.intro @Go.Cv.cStore.eq_1 (And.intro @Go.Cv.cLoop.eq_1 (And.intro @Go.Cv.cEnd.eq_1 (And.intro @Go.Cv.cEnd.eq_2 (And.intro @Go.Cv.cEnd.eq_3 (And.intro @Go.Cv.cRet.eq_1 (And.intro @Go.Cv.cRet.eq_2 (And.intro @Go.Cv.argsV.eq_1 (And.intro @Go.Cv.argsV.eq_2 (And.intro @Go.Cv.argsV.eq_3 (And.intro @Go.Cv.regsV.eq_1 (And.intro @Go.Cv.regsV.eq_2 (And.intro @Go.Vc.oneCell.eq_1 (And.intro @Go.Vc.oneCell.eq_2 (And.intro @Go.Vc.oneCell.eq_3 @Nat.add_zero)))))))))))))))))))))))))))))))))):=And.intro @Go.Cv.c.eq_1 (And.intro @Go.Cv.c.eq_2 (And.intro @Go.Cv.c.eq_3 (And.intro @Go.Cv.c.eq_4 (And.intro @Go.Cv.c.eq_5 (And.intro @Go.Cv.c.eq_6 (And.intro @Go.Cv.c.eq_7 (And.intro @Go.Cv.c.eq_8 (And.intro @Go.Cv.c.eq_9 (And.intro @Go.Cv.c.eq_10 (And.intro @Go.Cv.c.eq_11 (And.intro @Go.Cv.cl.eq_1 (And.intro @Go.Cv.cl.eq_2 (And.intro @Go.Cv.cg0 (And.intro @Go.Cv.cg1 (And.intro @Go.Cv.cOp.eq_1 (And.intro @Go.Cv.cCall.eq_1 (And.intro @Go.Cv.cLoad.eq_1 (And.intro @Go.Cv.cLoadA.eq_1 (And.intro @Go.Cv.cStore.eq_1 (And.intro @Go.Cv.cLoop.eq_1 (And.intro @Go.Cv.cEnd.eq_1 (And.intro @Go.Cv.cEnd.eq_2 (And.intro @Go.Cv.cEnd.eq_3 (And.intro @Go.Cv.cRet.eq_1 (And.intro @Go.Cv.cRet.eq_2 (And.intro @Go.Cv.argsV.eq_1 (And.intro @Go.Cv.argsV.eq_2 (And.intro @Go.Cv.argsV.eq_3 (And.intro @Go.Cv.regsV.eq_1 (And.intro @Go.Cv.regsV.eq_2 (And.intro @Go.Vc.oneCell.eq_1 (And.intro @Go.Vc.oneCell.eq_2 (And.intro @Go.Vc.oneCell.eq_3 @Nat.add_zero)))))))))))))))))))))))))))))))))
end Go.Proofs.YteffjmaadkkmeaaGreatDoor
