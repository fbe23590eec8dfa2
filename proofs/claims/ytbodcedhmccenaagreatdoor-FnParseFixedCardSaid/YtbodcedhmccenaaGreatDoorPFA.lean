/-
  Words, numbers and tokens; trees.
  Conditions: none.
-/
import Derived.Test.YtbodcedhmccenaaGreatDoorPFTypes
import Derived.Shelf.Strings.BuilderF
import Derived.Shelf.LaysM
import Derived.Shelf.LaysC
import Derived.Shelf.Strconv.Itoa3
import Derived.Shelf.Strings.Split
import Derived.Shelf.Strings.Replace
import Derived.Shelf.Strconv.AtoiAll
import Derived.Test.YtbodcedhmccenaaGreatDoorProg
import Derived.Lib.UnsafeStr
import Derived.Lib.AtoiTie
set_option linter.unusedVariables false
set_option linter.unusedSimpArgs false
set_option linter.unusedSectionVars false
set_option maxRecDepth 8000
namespace Go.Proofs.YtbodcedhmccenaaGreatDoor
open Go Go.Dv
open Go.Vc (D dg dh cX bk)
abbrev int (n:Int):D:=.lit (.int .i64 n)
abbrev bool (b:Bool):D:=.lit (.bool b)
abbrev str (s:ByteArray):D:=.lit (.string s)
abbrev vi (n:Int):S:=.c (.v (.int .i64 n))
abbrev vb (b:Bool):S:=.c (.v (.bool b))
abbrev vs (s:ByteArray):S:=.c (.v (.string s))
structure Val where
 kind:Int
 num:Int
 text:ByteArray
def Val.row (v:Val):List D:=[int v.kind,int v.num,str v.text]
structure Fa where
 code:Int
 name:ByteArray
def pw (v:Val):Nat:=v.text.size
theorem iU {a b:Int} (h:a=b):vi a=vi b:=by rw[h]
theorem jr {a b:ByteArray} (h:a=b):vs a=vs b:=by rw[h]
theorem aU {a b:Bool} (h:a=b):vb a=vb b:=by rw[h]
theorem sc {α:Type} (g:α->Nat) {l:List α} {i:Nat} (h:i<l.length):((l.take (i+1)).map g).sum=((l.take i).map g).sum+g l[i]:=by
 rw[List.take_succ_eq_append_getElem h,List.map_append,List.sum_append];simp only[List.map_cons,List.map_nil,List.sum_cons,List.sum_nil,Nat.add_zero]
theorem gz {α:Type} (g:α->Nat) (l:List α) (i:Nat):∃r,(l.map g).sum=((l.take i).map g).sum+r:=⟨((l.drop i).map g).sum,by
 conv=>lhs;rw[<-List.take_append_drop i l]
 rw[List.map_append,List.sum_append]⟩
abbrev vu (b:Int):S:=.c (.v (.int .u8 b))
theorem dA (a l h:Int):Cl Tryz.prog 196 [vi a,vi l,vi h] [] fun r _=>r=vb (decide (l<=a/\a<=h)):=by
 refine ai ac false Tryz.func196 rfl ae ?_
 simp only[Tryz.f196,tt,seval]
 all_goals repeat' first|(refine ab (fun h=>?_) (fun h=>?_)<;>try simp only[tt,seval])|(intro _;try simp only[tt,seval])
 all_goals (refine⟨_,[],aU (Bool.eq_iff_iff.2 ?_),ap rfl⟩)
 all_goals (simp only[decide_eq_true_eq,decide_eq_false_iff_not,Bool.false_eq_true,false_iff] at *)
 all_goals omega
theorem jW (a:Int):Cl Tryz.prog 248 [vu a] [] fun r _=>r=vb (decide (48<=a/\a<=57)):=by
 refine ai ac false Tryz.func248 rfl ae ?_
 simp only[Tryz.f248,tt,seval]
 all_goals repeat' first|(refine ab (fun h=>?_) (fun h=>?_)<;>try simp only[tt,seval])|(intro _;try simp only[tt,seval])
 all_goals (refine⟨_,[],aU (Bool.eq_iff_iff.2 ?_),ap rfl⟩)
 all_goals (simp only[decide_eq_true_eq,decide_eq_false_iff_not,Bool.false_eq_true,false_iff] at *)
 all_goals omega
theorem me (a:Int):Cl Tryz.prog 296 [vu a] [] fun r _=>r=vb (decide (48<=a/\a<=57)):=by
 refine ai ac false Tryz.func296 rfl ae ?_
 simp only[Tryz.f296,tt,seval]
 all_goals repeat' first|(refine ab (fun h=>?_) (fun h=>?_)<;>try simp only[tt,seval])|(intro _;try simp only[tt,seval])
 all_goals (refine⟨_,[],aU (Bool.eq_iff_iff.2 ?_),ap rfl⟩)
 all_goals (simp only[decide_eq_true_eq,decide_eq_false_iff_not,Bool.false_eq_true,false_iff] at *)
 all_goals omega
def jX (a:Int):Bool:=decide (97<=a/\a<=122)||decide (65<=a/\a<=90)||decide (a=95)
theorem mO (a:Int):Cl Tryz.prog 245 [vu a] [] fun r _=>r=vb (jX a):=by
 refine ai ac false Tryz.func245 rfl ae ?_
 simp only[Tryz.f245,tt,seval]
 all_goals repeat' first|(refine ab (fun h=>?_) (fun h=>?_)<;>try simp only[tt,seval])|(intro _;try simp only[tt,seval])
 all_goals (refine⟨_,[],aU (Bool.eq_iff_iff.2 ?_),ap rfl⟩)
 all_goals (simp only[decide_eq_true_eq,decide_eq_false_iff_not,Bool.or_eq_true,true_iff,jX] at *)
 all_goals omega
theorem At (a:Int):Cl Tryz.prog 325 [vu a] [] fun r _=>r=vb (jX a):=by
 refine ai ac false Tryz.func325 rfl ae ?_
 simp only[Tryz.f325,tt,seval]
 all_goals repeat' first|(refine ab (fun h=>?_) (fun h=>?_)<;>try simp only[tt,seval])|(intro _;try simp only[tt,seval])
 all_goals (refine⟨_,[],aU (Bool.eq_iff_iff.2 ?_),ap rfl⟩)
 all_goals (simp only[decide_eq_true_eq,decide_eq_false_iff_not,Bool.or_eq_true,true_iff,jX] at *)
 all_goals omega
theorem jt (s:ByteArray):Cl Tryz.prog 198 [vs s] [] fun r _=>r=vb (decide (1<=s.size/\s.size<=20)):=by
 refine ai ac false Tryz.func198 rfl ae ?_
 simp only[Tryz.f198,tt,seval]
 refine fun hs=>?_
 refine cZ (dA s.size 1 20) ?_ ?_<;>simp only[tt,seval]
 exact⟨_,_,aU (by simp only[decide_eq_decide];omega),ap rfl⟩
theorem g6 (s:ByteArray):Cl Tryz.prog 209 [vs s] [] fun r _=>r=vb (decide (1<=s.size/\s.size<=20)):=by
 refine ai ac false Tryz.func209 rfl ae ?_
 simp only[Tryz.f209,tt,seval]
 refine fun hs=>?_
 all_goals repeat' first|(refine ab (fun h=>?_) (fun h=>?_)<;>try simp only[tt,seval])|(intro _;try simp only[tt,seval])
 all_goals (refine⟨_,[],aU (Bool.eq_iff_iff.2 ?_),ap rfl⟩)
 all_goals (simp only[decide_eq_true_eq,decide_eq_false_iff_not,Bool.false_eq_true,false_iff] at *)
 all_goals omega
theorem qy (a:Int):Cl Tryz.prog 295 [vu a] [] fun r _=>r=vb (jX a||decide (48<=a/\a<=57)):=by
 refine ai ac false Tryz.func295 rfl ae ?_
 simp only[Tryz.f295,tt,seval]
 refine cZ (At a) ?_ ?_<;>simp only[tt,seval]
 refine ab (fun h=>?_) (fun h=>?_)
 ·simp only[tt,seval]
  exact⟨_,_,aU (by rw[h];rfl),ap rfl⟩
 ·simp only[tt,seval]
  refine cZ (me a) ?_ ?_<;>simp only[tt,seval]
  exact⟨_,_,aU (by rw[h];rfl),ap rfl⟩
def up8 (b:UInt8):UInt8:=if 97<=b.toNat/\b.toNat<=122 then b-32 else b
def bW (s:ByteArray):ByteArray:=⟨(s.data.toList.map up8).toArray⟩
theorem eI (l:List UInt8):(aR l).length=l.length:=by simp [aR]
theorem px {l:List UInt8} {i:Nat} (h:i<l.length):(aR l).drop i=D.lit (.int .u8 (l[i].toNat:Int))::(aR l).drop (i+1):=by
 unfold aR
 rw[<-List.map_drop,<-List.map_drop,List.drop_eq_getElem_cons h];rfl
theorem qz {l:List UInt8} {i:Nat} {b:UInt8} (h:i<l.length):(aR l).take i++(D.lit (.int .u8 (b.toNat:Int))::(aR l).drop (i+1))=aR (l.set i b):=by
 unfold aR
 rw[List.set_eq_take_append_cons_drop,if_pos h,List.map_append,List.map_cons,List.map_take,List.map_drop]
theorem aE (s:ByteArray):s.data.toList.length=s.size:=by simp
def sL (l:List UInt8) (i:Nat):List UInt8:=(l.take i).map up8++l.drop i
theorem iV (l:List UInt8) (i:Nat):(sL l i).length=l.length:=by rw[sL,aC,List.length_map,<-aC,List.take_append_drop]
theorem tT {l:List UInt8} {i:Nat} (h:i<l.length):(sL l i)[i]'(by rw[iV];exact h)=l[i]:=by
 have hl:((l.take i).map up8).length=i:=by simp;omega
 have:(sL l i)[i]?=some l[i]:=by
  rw[sL,List.getElem?_append_right aa,hl,Nat.sub_self,List.drop_eq_getElem_cons h];rfl
 rw[aD (by rw[iV];exact h)] at this
 exact Option.some.inj this
theorem qA {l:List UInt8} {i:Nat} (h:i<l.length):(sL l i).set i (up8 l[i])=sL l (i+1):=by
 have hl:((l.take i).map up8).length=i:=by simp;omega
 unfold sL
 rw[List.set_append_right _ _ aa,hl,Nat.sub_self,List.drop_eq_getElem_cons h,List.set_cons_zero,List.take_succ_eq_append_getElem h,List.map_append]
 simp
theorem nB {l:List UInt8} {i:Nat} (h:i<l.length) (hu:up8 l[i]=l[i]):sL l i=sL l (i+1):=by
 rw[<-qA h,hu]
 conv=>rhs;rw[<-tT h]
 rw[List.set_getElem_self]
theorem yM (l:List UInt8):sL l l.length=l.map up8:=by simp [sL]
theorem tU {b:UInt8} (h:¬(97<=b.toNat/\b.toNat<=122)):up8 b=b:=if_neg h
theorem yN {b:UInt8} (h:97<=b.toNat) (h':b.toNat<=122):((up8 b).toNat:Int)=b.toNat-32:=by
 unfold up8
 rw[if_pos ⟨h,h'⟩,UInt8.toNat_sub_of_le _ _ (by rw[UInt8.le_iff_toNat_le];show 32<=_;omega)]
 show ((b.toNat-32:Nat):Int)=_
 omega
theorem qB (s:ByteArray) (hs:s.size<=1048576):Cl Tryz.prog 135 [vs s] [] fun r _=>r=vs (bW s):=by
 obtain⟨l,hl⟩:∃l,l=s.data.toList:=⟨_,rfl⟩
 have hll:l.length=s.size:=by rw[hl];exact aE s
 refine ai ac false Tryz.func135 rfl ae ?_
 simp only[Tryz.f135,tt,seval]
 rw[<-hl]
 refine dLoop.intro (fun f L p=>∃i:Nat,f 4=vi i/\i<=s.size/\L=[(6,.arr 5 s.size (aR (sL l i)) none)]/\p=none) (fun f _ _=>(s.size-eH (f 4)).toNat) [(6,.arr 5 s.size (aR l) none)] none ⟨ak rfl (ao _),aq _,?_⟩ ?_
 ·simp only[tt,seval]
  exact⟨0,rfl,aa,by simp [sL]⟩
 ·rintro g L p ⟨i,h4,hi,rfl,rfl⟩
  simp only[tt,seval] at h4
  simp only[tt,seval,h4,Int.ofNat_lt]
  refine fun _=>ab (fun hlt=>?_) (fun hge=>?_)
  ·have hlt':i<(sL l i).length:=by rw[iV];omega
   have hd:=px hlt'
   rw[tT aa] at hd
   have hi0:(0:Int)<=(i:Int):=Int.natCast_nonneg i
   have hlI:(i:Int)<(s.size:Int):=by omega
   simp only[tt,seval,hd,Nat.mul_one,hlt,hi0]
   refine ab (fun h=>?_) (fun h=>?_)
   ·simp only[tt,seval,h4,hd,Nat.mul_one,hi0,hlI]
    simp only[decide_eq_true_eq] at h
    refine ab (fun h'=>?_) (fun h'=>?_)
    ·rw[ax (n:=(i:Int)+1) aa aa,IntWalk.u8_in _ ⟨aa,aa⟩,<-yN aa aa,qz hlt',qA aa]
     exact⟨by rw[eI,iV];omega,_,none,ak rfl (ao _),aq _,⟨i+1,rfl,aa,rfl,rfl⟩,aB⟩
    ·rw[eS i aa]
     have hsame:=nB (l:=l) (i:=i) aa (tU fun h1=>by omega)
     exact⟨_,none,ak rfl (ao _),aq _,⟨i+1,rfl,aa,congrArg (fun x=>[(6,O.arr 5 s.size (aR x) none)]) hsame,rfl⟩,aB⟩
   ·simp only[tt,seval,h4,hd,Nat.mul_one,hi0,hlI]
    rw[eS i aa]
    have hsame:=nB (l:=l) (i:=i) aa (tU fun h1=>by simp only[decide_eq_false_iff_not] at h;omega)
    exact⟨_,none,ak rfl (ao _),aq _,⟨i+1,rfl,aa,congrArg (fun x=>[(6,O.arr 5 s.size (aR x) none)]) hsame,rfl⟩,aB⟩
  ·have:i=s.size:=by omega
   subst this
   refine⟨ae,by simp only[maxLen];omega,sL l s.size,by rw[iV];exact hll,rfl,?_⟩
   simp only[tt,seval]
   exact⟨_,_,jr (by rw[<-hll,yM,hl];rfl),ap rfl⟩
theorem qc (s:ByteArray) (hs:s.size<=1048576):Cl Tryz.prog 252 [vs s] [] fun r _=>r=vs (bW s):=by
 obtain⟨l,hl⟩:∃l,l=s.data.toList:=⟨_,rfl⟩
 have hll:l.length=s.size:=by rw[hl];exact aE s
 refine ai ac false Tryz.func252 rfl ae ?_
 simp only[Tryz.f252,tt,seval]
 rw[<-hl]
 refine fun _=>?_
 refine dLoop.intro (fun f L p=>∃i:Nat,f 10=vi i/\i<=s.size/\L=[(7,.arr 5 s.size (aR (sL l i)) none)]/\p=none) (fun f _ _=>(s.size-eH (f 10)).toNat) [(7,.arr 5 s.size (aR l) none)] none ⟨ak rfl (ao _),aq _,?_⟩ ?_
 ·simp only[tt,seval]
  exact⟨0,rfl,aa,by simp [sL]⟩
 ·rintro g L p ⟨i,h4,hi,rfl,rfl⟩
  simp only[tt,seval] at h4
  simp only[tt,seval,h4,Int.ofNat_lt]
  refine ab (fun hlt=>?_) (fun hge=>?_)
  ·have hlt':i<(sL l i).length:=by rw[iV];omega
   have hd:=px hlt'
   rw[tT aa] at hd
   have hi0:(0:Int)<=(i:Int):=Int.natCast_nonneg i
   have hlI:(i:Int)<(s.size:Int):=by omega
   simp only[tt,seval,hd,Nat.mul_one,hlt,hi0]
   refine ab (fun h=>?_) (fun h=>?_)
   ·simp only[tt,seval,h4,Nat.mul_one,hi0,hlI]
    simp only[decide_eq_true_eq] at h
    refine ab (fun h'=>?_) (fun h'=>?_)
    ·rw[ax (n:=(i:Int)+1) aa aa,IntWalk.u8_in ((l[i].toNat:Int)-97) ⟨aa,aa⟩,IntWalk.u8_in _ ⟨aa,aa⟩,show (l[i].toNat:Int)-97+65=l[i].toNat-32 by omega,<-yN aa aa,qz hlt',qA aa]
     exact⟨by rw[eI,iV];omega,_,none,ak rfl (ao _),aq _,⟨i+1,rfl,aa,rfl,rfl⟩,aB⟩
    ·rw[eS i aa]
     have hsame:=nB (l:=l) (i:=i) aa (tU fun h1=>by omega)
     exact⟨_,none,ak rfl (ao _),aq _,⟨i+1,rfl,aa,congrArg (fun x=>[(7,O.arr 5 s.size (aR x) none)]) hsame,rfl⟩,aB⟩
   ·simp only[tt,seval,h4,Nat.mul_one,hi0,hlI]
    rw[eS i aa]
    have hsame:=nB (l:=l) (i:=i) aa (tU fun h1=>by simp only[decide_eq_false_iff_not] at h;omega)
    exact⟨_,none,ak rfl (ao _),aq _,⟨i+1,rfl,aa,congrArg (fun x=>[(7,O.arr 5 s.size (aR x) none)]) hsame,rfl⟩,aB⟩
  ·have:i=s.size:=by omega
   subst this
   refine⟨ae,by simp only[maxLen];omega,sL l s.size,by rw[iV];exact hll,rfl,?_⟩
   simp only[tt,seval]
   exact⟨_,_,jr (by rw[<-hll,yM,hl];rfl),ap rfl⟩
def srow (s:ByteArray):List D:=[str s]
theorem fE (n:ByteArray):(srow n).length=1:=rfl
theorem jY (v:ByteArray) (r:List D):srow v++r≠[]:=fun h=>by cases h
def kws:List ByteArray:=[⟨#[83,69,76,69,67,84]⟩,⟨#[68,73,83,84,73,78,67,84]⟩,⟨#[70,82,79,77]⟩,⟨#[74,79,73,78]⟩,⟨#[79,78]⟩,⟨#[87,72,69,82,69]⟩,⟨#[79,82,68,69,82]⟩,⟨#[66,89]⟩,⟨#[65,83,67]⟩,⟨#[68,69,83,67]⟩,⟨#[76,73,77,73,84]⟩,⟨#[65,83]⟩,⟨#[65,78,68]⟩,⟨#[79,82]⟩,⟨#[78,79,84]⟩,⟨#[73,83]⟩,⟨#[73,78]⟩,⟨#[66,69,84,87,69,69,78]⟩,⟨#[69,88,73,83,84,83]⟩,⟨#[78,85,76,76]⟩,⟨#[84,82,85,69]⟩,⟨#[70,65,76,83,69]⟩,⟨#[73,78,83,69,82,84]⟩,⟨#[73,78,84,79]⟩,⟨#[86,65,76,85,69,83]⟩,⟨#[85,80,68,65,84,69]⟩,⟨#[83,69,84]⟩,⟨#[68,69,76,69,84,69]⟩]
def kV:List ByteArray:=⟨#[]⟩::kws
theorem Eh:List.range 29=[0,1,2,3,4,5,6,7,8,9,10,11,12,13,14,15,16,17,18,19,20,21,22,23,24,25,26,27,28]:=rfl
theorem IA (α:Type) (a:α):List.replicate 29 a=[a,a,a,a,a,a,a,a,a,a,a,a,a,a,a,a,a,a,a,a,a,a,a,a,a,a,a,a,a]:=rfl
theorem oO:Cl Tryz.prog 279 [] [] fun r _=>r = .c (.sl 29 (kV.flatMap srow) none):=by
 refine ai ac false Tryz.func279 rfl ae ?_
 simp only[tt,seval,Tryz.f279,Eh,IA]
 refine⟨_,[],rfl,am ?_⟩
 simp only[tt,seval,kV,kws,srow]
theorem yO {α:Type} {l:List α} {p:α->Bool} {i:Nat} (h:i<l.length) (hp:p l[i]=true) (hn:∀j (hj:j<i),p (l[j]'(by omega))=false):l.findIdx p=i:=(List.findIdx_eq h).2 ⟨hp,hn⟩
theorem tV {α:Type} {l:List α} {p:α->Bool} (hn:∀j (hj:j<l.length),p l[j]=false):l.findIdx p=l.length:=List.findIdx_eq_length_of_false fun x hx=>by
 obtain⟨j,hj,rfl⟩:=List.mem_iff_getElem.1 hx
 exact hn j hj
def mP (f:ByteArray) (l:List ByteArray):Int:=if l.findIdx (fun w=>decide (w=f))<l.length then l.findIdx (fun w=>decide (w=f)) else -1
def key (s:ByteArray):Int:=mP (bW s) kws+1
theorem yP (l:List ByteArray) (f:ByteArray):Cl Tryz.prog 299 [.c (.sl l.length (l.flatMap srow) none),vs f] [] fun r _=>r=vi (mP f l):=by
 refine ai ac false Tryz.func299 rfl ae ?_
 simp only[Tryz.f299,tt,seval]
 refine fun _=>?_
 refine dLoop.intro (fun f' L p=>∃i:Nat,f' 8=vi i/\i<=l.length/\(∀j (hj:j<l.length),j<i->l[j]≠f)/\L=[]/\p=none) (fun f' _ _=>(l.length-eH (f' 8)).toNat) [] none ⟨ao _,aq _,?_⟩ ?_
 ·simp only[tt,seval]
  exact⟨0,rfl,aa,fun j _ h=>absurd h (Nat.not_lt_zero _)⟩
 ·rintro g L p ⟨i,h8,hi,hn,rfl,rfl⟩
  simp only[tt,seval] at h8
  simp only[tt,seval,h8,Int.ofNat_lt]
  refine ab (fun hlt=>?_) (fun hge=>?_)
  ·refine⟨aa,aa,_,aH fE (aD hlt),jY _ _,?_⟩
   simp only[tt,seval,h8,srow]
   refine ab (fun he=>?_) (fun he=>?_)
   ·refine⟨_,_,iU ?_,ap rfl⟩
    rw[mP,yO hlt (by simp [he]) (fun j hj=>by simpa using hn j aa hj),if_pos hlt]
   ·rw[eS i aa]
    exact⟨[],none,ao _,aq _,⟨i+1,rfl,aa,fun j hj hji=>by
     by_cases e:j=i
     ·subst e;exact fun h=>he h.symm
     ·exact hn j hj aa,rfl,rfl⟩,aB⟩
  ·refine⟨_,_,iU ?_,ap rfl⟩
   rw[mP,tV (fun j hj=>by simpa using hn j hj aa),if_neg aa]
theorem g7 (s:ByteArray):(bW s).size=s.size:=by
 show (List.toArray _).size=_
 simp
theorem sM:∀w∈kws,w.size<=8:=by decide
theorem sN:kV.length=29:=rfl
theorem nC:kws.length=28:=rfl
theorem xC {j:Nat} (h:j+1<kV.length):kV[j+1]=kws[j]'(by simp only[sN] at h;simp only[nC];omega):=rfl
theorem vh {s:ByteArray} (h:8<s.size):key s=0:=by
 unfold key mP
 rw[tV (l:=kws) (p:=fun w=>decide (w=bW s)) (fun j hj=>au fun e=>by
  have:=sM _ (aO hj)
  rw[e,g7] at this
  omega),if_neg (Nat.lt_irrefl _)]
 rfl
theorem tW (s:ByteArray) (hs:s.size<=1048576):Cl Tryz.prog 247 [vs s] [] fun r _=>r=vi (key s):=by
 refine ai ac false Tryz.func247 rfl ae ?_
 simp only[Tryz.f247,tt,seval]
 refine fun _=>ab (fun hlt=>?_) (fun hge=>?_)
 ·exact⟨_,_,iU (vh aa).symm,ap rfl⟩
 ·skip
  refine cZ (qB s hs) ?_ ?_<;>simp only[tt,seval]
  refine cZ (oO) ?_ ?_<;>simp only[tt,seval]
  refine dLoop.intro (fun f' L p=>∃i:Nat,f' 5=vi i/\1<=i/\i<=29/\(∀j (hj:j<kws.length),j+1<i->kws[j]≠bW s)/\L=[]/\p=none) (fun f' _ _=>(29-eH (f' 5)).toNat) [] none ⟨ao _,aq _,?_⟩ ?_
  ·simp only[tt,seval]
   exact⟨1,rfl,aa,aa,fun j _ h=>absurd h aa⟩
  ·rintro g L p ⟨i,h8,hi1,hi,hn,rfl,rfl⟩
   simp only[tt,seval] at h8
   simp only[tt,seval,h8]
   refine ab (fun hlt=>?_) (fun hge=>?_)
   ·have hlt':i<kV.length:=by rw[sN];omega
    obtain⟨j,rfl⟩:∃j,i=j+1:=⟨i-1,aa⟩
    have hj:j<kws.length:=by rw[nC];omega
    refine⟨aa,aa,_,aH fE (aD hlt'),jY _ _,?_⟩
    rw[xC hlt']
    simp only[tt,seval,h8,srow]
    refine ab (fun he=>?_) (fun he=>?_)
    ·refine⟨_,_,iU ?_,ap rfl⟩
     rw[key,mP,yO hj (by simp [he]) (fun j' hj'=>by simpa using hn j' aa aa),if_pos hj]
     omega
    ·rw[ax (n:=((j+1:Nat):Int)+1) aa aa]
     exact⟨[],none,ao _,aq _,⟨j+2,rfl,aa,aa,fun j' hj' hji=>by
      by_cases e:j'=j
      ·subst e;exact he
      ·exact hn j' hj' aa,rfl,rfl⟩,aB⟩
   ·refine⟨_,_,iU ?_,ap rfl⟩
    rw[key,mP,tV (fun j hj=>by simpa using hn j hj (by rw[nC] at hj;omega)),if_neg aa]
    rfl
end Go.Proofs.YtbodcedhmccenaaGreatDoor
namespace Go.Proofs.YtbodcedhmccenaaGreatDoor
open Go Go.Shelf Go.Proofs
def Tryz.lays146_ren:Go.Shelf.Ren:=⟨fun|146=>259|221=>305|268=>329|138=>330|143=>294|195=>343|197=>344|218=>345|219=>324|260=>357|217=>322|225=>334|224=>335|267=>336|266=>333|314=>352|n=>n,fun|9=>9|31=>33|3=>3|4=>4|0=>0|105=>274|21=>21|5=>5|46=>218|119=>299|139=>302|138=>301|146=>284|51=>283|n=>n,fun|1=>0|3=>4|4=>5|n=>n⟩
theorem Tryz.lays146:Go.Proofs.Lays.n146 Tryz.prog Tryz.lays146_ren:={
 mixed:=by kernel_rfl
 f138:=Tryz.func330.trans (congrArg some ae)
 f143:=Tryz.func294.trans (congrArg some ae)
 f146:=Tryz.func259.trans (congrArg some ae)
 f195:=Tryz.func343.trans (congrArg some ae)
 f197:=Tryz.func344.trans (congrArg some ae)
 f217:=Tryz.func322.trans (congrArg some ae)
 f218:=Tryz.func345.trans (congrArg some ae)
 f219:=Tryz.func324.trans (congrArg some ae)
 f221:=Tryz.func305.trans (congrArg some ae)
 f224:=Tryz.func335.trans (congrArg some ae)
 f225:=Tryz.func334.trans (congrArg some ae)
 f260:=Tryz.func357.trans (congrArg some ae)
 f266:=Tryz.func333.trans (congrArg some ae)
 f267:=Tryz.func336.trans (congrArg some ae)
 f268:=Tryz.func329.trans (congrArg some ae)
 f314:=Tryz.func352.trans (congrArg some ae)
 t0:=Tryz.underlying0
 a0:=Tryz.isAgg0
 z0:=Tryz.sizeOf0
 v0:=Tryz.zeroValue0
 t3:=Tryz.underlying3
 a3:=Tryz.isAgg3
 z3:=Tryz.sizeOf3
 v3:=Tryz.zeroValue3
 t4:=Tryz.underlying4
 a4:=Tryz.isAgg4
 z4:=Tryz.sizeOf4
 v4:=Tryz.zeroValue4
 t5:=Tryz.underlying5
 a5:=Tryz.isAgg5
 z5:=Tryz.sizeOf5
 v5:=Tryz.zeroValue5
 t9:=Tryz.underlying9
 a9:=Tryz.isAgg9
 z9:=Tryz.sizeOf9
 v9:=Tryz.zeroValue9
 t21:=Tryz.underlying21
 a21:=Tryz.isAgg21
 z21:=Tryz.sizeOf21
 v21:=Tryz.zeroValue21
 t31:=Tryz.underlying33
 a31:=Tryz.isAgg33
 z31:=Tryz.sizeOf33
 v31:=Tryz.zeroValue33
 t46:=Tryz.underlying218
 a46:=Tryz.isAgg218
 z46:=Tryz.sizeOf218
 v46:=Tryz.zeroValue218
 t51:=Tryz.underlying283
 a51:=Tryz.isAgg283
 z51:=Tryz.sizeOf283
 v51:=Tryz.zeroValue283
 t105:=Tryz.underlying274
 a105:=Tryz.isAgg274
 z105:=Tryz.sizeOf274
 v105:=Tryz.zeroValue274
 t119:=Tryz.underlying299
 a119:=Tryz.isAgg299
 z119:=Tryz.sizeOf299
 t138:=Tryz.underlying301
 a138:=Tryz.isAgg301
 z138:=Tryz.sizeOf301
 v138:=Tryz.zeroValue301
 t139:=Tryz.underlying302
 a139:=Tryz.isAgg302
 z139:=Tryz.sizeOf302
 v139:=Tryz.zeroValue302
 t146:=Tryz.underlying284
 a146:=Tryz.isAgg284
 z146:=Tryz.sizeOf284
 v146:=Tryz.zeroValue284
 g1:=by kernel_rfl
 g3:=by kernel_rfl
 g4:=by kernel_rfl }
def Tryz.lays155_ren:Go.Shelf.Ren:=⟨fun|155=>328|154=>342|138=>330|165=>356|143=>294|166=>150|197=>344|169=>153|195=>343|218=>345|240=>255|241=>366|219=>324|260=>357|276=>303|277=>370|217=>322|225=>334|224=>335|267=>336|266=>333|314=>352|n=>n,fun|9=>9|3=>3|4=>4|72=>163|0=>0|76=>167|105=>274|21=>21|5=>5|70=>161|20=>20|37=>22|75=>166|127=>227|164=>250|46=>218|119=>299|139=>302|138=>301|146=>284|51=>283|80=>170|n=>n,fun|1=>0|3=>4|4=>5|n=>n⟩
theorem Tryz.lays155:Go.Proofs.Lays.n155 Tryz.prog Tryz.lays155_ren:={
 mixed:=by kernel_rfl
 f138:=Tryz.func330.trans (congrArg some ae)
 f143:=Tryz.func294.trans (congrArg some ae)
 f154:=Tryz.func342.trans (congrArg some ae)
 f155:=Tryz.func328.trans (congrArg some ae)
 f165:=Tryz.func356.trans (congrArg some ae)
 f166:=Tryz.func150.trans (congrArg some ae)
 f169:=Tryz.func153.trans (congrArg some ae)
 f195:=Tryz.func343.trans (congrArg some ae)
 f197:=Tryz.func344.trans (congrArg some ae)
 f217:=Tryz.func322.trans (congrArg some ae)
 f218:=Tryz.func345.trans (congrArg some ae)
 f219:=Tryz.func324.trans (congrArg some ae)
 f224:=Tryz.func335.trans (congrArg some ae)
 f225:=Tryz.func334.trans (congrArg some ae)
 f240:=Tryz.func255.trans (congrArg some ae)
 f241:=Tryz.func366.trans (congrArg some ae)
 f260:=Tryz.func357.trans (congrArg some ae)
 f266:=Tryz.func333.trans (congrArg some ae)
 f267:=Tryz.func336.trans (congrArg some ae)
 f276:=Tryz.func303.trans (congrArg some ae)
 f277:=Tryz.func370.trans (congrArg some ae)
 f314:=Tryz.func352.trans (congrArg some ae)
 t0:=Tryz.underlying0
 a0:=Tryz.isAgg0
 z0:=Tryz.sizeOf0
 v0:=Tryz.zeroValue0
 t3:=Tryz.underlying3
 a3:=Tryz.isAgg3
 z3:=Tryz.sizeOf3
 v3:=Tryz.zeroValue3
 t4:=Tryz.underlying4
 a4:=Tryz.isAgg4
 z4:=Tryz.sizeOf4
 v4:=Tryz.zeroValue4
 t5:=Tryz.underlying5
 a5:=Tryz.isAgg5
 z5:=Tryz.sizeOf5
 v5:=Tryz.zeroValue5
 t9:=Tryz.underlying9
 a9:=Tryz.isAgg9
 z9:=Tryz.sizeOf9
 v9:=Tryz.zeroValue9
 t20:=Tryz.underlying20
 a20:=Tryz.isAgg20
 z20:=Tryz.sizeOf20
 v20:=Tryz.zeroValue20
 t21:=Tryz.underlying21
 a21:=Tryz.isAgg21
 z21:=Tryz.sizeOf21
 v21:=Tryz.zeroValue21
 t37:=Tryz.underlying22
 a37:=Tryz.isAgg22
 z37:=Tryz.sizeOf22
 v37:=Tryz.zeroValue22
 t46:=Tryz.underlying218
 a46:=Tryz.isAgg218
 z46:=Tryz.sizeOf218
 v46:=Tryz.zeroValue218
 t51:=Tryz.underlying283
 a51:=Tryz.isAgg283
 z51:=Tryz.sizeOf283
 v51:=Tryz.zeroValue283
 t70:=Tryz.underlying161
 a70:=Tryz.isAgg161
 z70:=Tryz.sizeOf161
 v70:=Tryz.zeroValue161
 t72:=Tryz.underlying163
 a72:=Tryz.isAgg163
 z72:=Tryz.sizeOf163
 v72:=Tryz.zeroValue163
 t75:=Tryz.underlying166
 a75:=Tryz.isAgg166
 z75:=Tryz.sizeOf166
 v75:=Tryz.zeroValue166
 t76:=Tryz.underlying167
 a76:=Tryz.isAgg167
 z76:=Tryz.sizeOf167
 v76:=Tryz.zeroValue167
 t105:=Tryz.underlying274
 a105:=Tryz.isAgg274
 z105:=Tryz.sizeOf274
 v105:=Tryz.zeroValue274
 t119:=Tryz.underlying299
 a119:=Tryz.isAgg299
 z119:=Tryz.sizeOf299
 t127:=Tryz.underlying227
 a127:=Tryz.isAgg227
 z127:=Tryz.sizeOf227
 v127:=Tryz.zeroValue227
 t138:=Tryz.underlying301
 a138:=Tryz.isAgg301
 z138:=Tryz.sizeOf301
 v138:=Tryz.zeroValue301
 t139:=Tryz.underlying302
 a139:=Tryz.isAgg302
 z139:=Tryz.sizeOf302
 v139:=Tryz.zeroValue302
 t146:=Tryz.underlying284
 a146:=Tryz.isAgg284
 z146:=Tryz.sizeOf284
 v146:=Tryz.zeroValue284
 t164:=Tryz.underlying250
 a164:=Tryz.isAgg250
 z164:=Tryz.sizeOf250
 v164:=Tryz.zeroValue250
 g1:=by kernel_rfl
 g3:=by kernel_rfl
 g4:=by kernel_rfl }
theorem Tryz.Builder_Extra_155:Builder.Extra Tryz.prog Tryz.lays155_ren:={
 sizeBuilder:=by kernel_rfl
 liesBuilder:=by kernel_rfl
 t5:=Tryz.underlying5
 a5:=Tryz.isAgg5
 z5:=Tryz.sizeOf5
 v5:=Tryz.zeroValue5
 infoByte:=by kernel_rfl
 cellsByte:=by kernel_rfl
 sizeByte:=by kernel_rfl
 neB5:=by decide }
def Tryz.laysM171_ren:Go.Shelf.Ren:=⟨fun|171=>260|243=>306|246=>331|283=>346|284=>347|285=>348|286=>349|129=>359|317=>358|318=>360|319=>361|320=>362|337=>367|338=>368|n=>n,fun|3=>3|9=>9|2=>2|4=>4|171=>276|0=>0|53=>277|37=>22|5=>5|173=>280|212=>292|51=>283|20=>20|213=>293|46=>218|232=>305|233=>306|n=>n,fun|17=>3|18=>6|19=>7|n=>n⟩
theorem Tryz.laysM171:Go.Proofs.LaysM.n171 Tryz.prog Tryz.laysM171_ren:={
 mixed:=by kernel_rfl
 f129:=Tryz.func359.trans (congrArg some ae)
 f171:=Tryz.func260.trans (congrArg some ae)
 f243:=Tryz.func306.trans (congrArg some ae)
 f246:=Tryz.func331.trans (congrArg some ae)
 f283:=Tryz.func346.trans (congrArg some ae)
 f284:=Tryz.func347.trans (congrArg some ae)
 f285:=Tryz.func348.trans (congrArg some ae)
 f286:=Tryz.func349.trans (congrArg some ae)
 f317:=Tryz.func358.trans (congrArg some ae)
 f318:=Tryz.func360.trans (congrArg some ae)
 f319:=Tryz.func361.trans (congrArg some ae)
 f320:=Tryz.func362.trans (congrArg some ae)
 f337:=Tryz.func367.trans (congrArg some ae)
 f338:=Tryz.func368.trans (congrArg some ae)
 t0:=Tryz.underlying0
 a0:=Tryz.isAgg0
 z0:=Tryz.sizeOf0
 v0:=Tryz.zeroValue0
 t2:=Tryz.underlying2
 a2:=Tryz.isAgg2
 z2:=Tryz.sizeOf2
 v2:=Tryz.zeroValue2
 t3:=Tryz.underlying3
 a3:=Tryz.isAgg3
 z3:=Tryz.sizeOf3
 v3:=Tryz.zeroValue3
 t4:=Tryz.underlying4
 a4:=Tryz.isAgg4
 z4:=Tryz.sizeOf4
 v4:=Tryz.zeroValue4
 t5:=Tryz.underlying5
 a5:=Tryz.isAgg5
 z5:=Tryz.sizeOf5
 v5:=Tryz.zeroValue5
 t9:=Tryz.underlying9
 a9:=Tryz.isAgg9
 z9:=Tryz.sizeOf9
 v9:=Tryz.zeroValue9
 t20:=Tryz.underlying20
 a20:=Tryz.isAgg20
 z20:=Tryz.sizeOf20
 v20:=Tryz.zeroValue20
 t37:=Tryz.underlying22
 a37:=Tryz.isAgg22
 z37:=Tryz.sizeOf22
 v37:=Tryz.zeroValue22
 t46:=Tryz.underlying218
 a46:=Tryz.isAgg218
 z46:=Tryz.sizeOf218
 v46:=Tryz.zeroValue218
 t51:=Tryz.underlying283
 a51:=Tryz.isAgg283
 z51:=Tryz.sizeOf283
 v51:=Tryz.zeroValue283
 t53:=Tryz.underlying277
 a53:=Tryz.isAgg277
 z53:=Tryz.sizeOf277
 v53:=Tryz.zeroValue277
 t171:=Tryz.underlying276
 a171:=Tryz.isAgg276
 z171:=Tryz.sizeOf276
 v171:=Tryz.zeroValue276
 t173:=Tryz.underlying280
 a173:=Tryz.isAgg280
 z173:=Tryz.sizeOf280
 v173:=Tryz.zeroValue280
 t212:=Tryz.underlying292
 a212:=Tryz.isAgg292
 z212:=Tryz.sizeOf292
 v212:=Tryz.zeroValue292
 t213:=Tryz.underlying293
 a213:=Tryz.isAgg293
 z213:=Tryz.sizeOf293
 t232:=Tryz.underlying305
 a232:=Tryz.isAgg305
 z232:=Tryz.sizeOf305
 v232:=Tryz.zeroValue305
 t233:=Tryz.underlying306
 a233:=Tryz.isAgg306
 z233:=Tryz.sizeOf306
 v233:=Tryz.zeroValue306
 g17:=by kernel_rfl
 g18:=by kernel_rfl
 g19:=by kernel_rfl
 i0:=by kernel_rfl
 i2:=by kernel_rfl
 i3:=by kernel_rfl
 i4:=by kernel_rfl
 i5:=by kernel_rfl
 i9:=by kernel_rfl
 i20:=by kernel_rfl
 i37:=by kernel_rfl
 i46:=by kernel_rfl
 i51:=by kernel_rfl
 i53:=by kernel_rfl
 i171:=by kernel_rfl
 i173:=by kernel_rfl
 i212:=by kernel_rfl
 i232:=by kernel_rfl
 i233:=by kernel_rfl
 m17:=by kernel_rfl
 m18:=by kernel_rfl
 m19:=by kernel_rfl }
def Tryz.lays169_ren:Go.Shelf.Ren:=⟨fun|169=>153|n=>n,fun|70=>161|9=>9|0=>0|72=>163|37=>22|127=>227|3=>3|5=>5|n=>n,fun|n=>n⟩
theorem Tryz.lays169:Go.Proofs.Lays.n169 Tryz.prog Tryz.lays169_ren:={
 mixed:=by kernel_rfl
 f169:=Tryz.func153.trans (congrArg some ae)
 t0:=Tryz.underlying0
 a0:=Tryz.isAgg0
 z0:=Tryz.sizeOf0
 v0:=Tryz.zeroValue0
 t3:=Tryz.underlying3
 a3:=Tryz.isAgg3
 z3:=Tryz.sizeOf3
 v3:=Tryz.zeroValue3
 t9:=Tryz.underlying9
 a9:=Tryz.isAgg9
 z9:=Tryz.sizeOf9
 v9:=Tryz.zeroValue9
 t37:=Tryz.underlying22
 a37:=Tryz.isAgg22
 z37:=Tryz.sizeOf22
 v37:=Tryz.zeroValue22
 t70:=Tryz.underlying161
 a70:=Tryz.isAgg161
 z70:=Tryz.sizeOf161
 v70:=Tryz.zeroValue161
 t72:=Tryz.underlying163
 a72:=Tryz.isAgg163
 z72:=Tryz.sizeOf163
 v72:=Tryz.zeroValue163
 t127:=Tryz.underlying227
 a127:=Tryz.isAgg227
 z127:=Tryz.sizeOf227
 v127:=Tryz.zeroValue227 }
theorem Tryz.Builder_Extra_169:Builder.Extra Tryz.prog Tryz.lays169_ren:={
 sizeBuilder:=by kernel_rfl
 liesBuilder:=by kernel_rfl
 t5:=Tryz.underlying5
 a5:=Tryz.isAgg5
 z5:=Tryz.sizeOf5
 v5:=Tryz.zeroValue5
 infoByte:=by kernel_rfl
 cellsByte:=by kernel_rfl
 sizeByte:=by kernel_rfl
 neB5:=by decide }
def Tryz.laysC172_ren:Go.Shelf.Ren:=⟨fun|172=>301|244=>326|245=>327|247=>337|279=>338|280=>339|281=>340|282=>341|287=>353|316=>354|171=>260|205=>355|321=>364|322=>365|243=>306|246=>331|283=>346|284=>347|285=>348|286=>349|129=>359|317=>358|318=>360|319=>361|320=>362|337=>367|338=>368|n=>n,fun|9=>9|3=>3|75=>166|76=>167|4=>4|5=>5|167=>267|37=>22|0=>0|85=>268|2=>2|168=>270|53=>277|175=>286|46=>218|210=>289|127=>227|145=>298|143=>296|21=>21|171=>276|173=>280|212=>292|51=>283|20=>20|213=>293|232=>305|233=>306|80=>170|n=>n,fun|15=>1|16=>2|17=>3|18=>6|19=>7|n=>n⟩
theorem Tryz.laysC172:Go.Proofs.LaysC.n172 Tryz.prog Tryz.laysC172_ren:={
 mixed:=by kernel_rfl
 f129:=Tryz.func359.trans (congrArg some ae)
 f171:=Tryz.func260.trans (congrArg some ae)
 f172:=Tryz.func301.trans (congrArg some ae)
 f205:=Tryz.func355.trans (congrArg some ae)
 f243:=Tryz.func306.trans (congrArg some ae)
 f244:=Tryz.func326.trans (congrArg some ae)
 f245:=Tryz.func327.trans (congrArg some ae)
 f246:=Tryz.func331.trans (congrArg some ae)
 f247:=Tryz.func337.trans (congrArg some ae)
 f279:=Tryz.func338.trans (congrArg some ae)
 f280:=Tryz.func339.trans (congrArg some ae)
 f281:=Tryz.func340.trans (congrArg some ae)
 f282:=Tryz.func341.trans (congrArg some ae)
 f283:=Tryz.func346.trans (congrArg some ae)
 f284:=Tryz.func347.trans (congrArg some ae)
 f285:=Tryz.func348.trans (congrArg some ae)
 f286:=Tryz.func349.trans (congrArg some ae)
 f287:=Tryz.func353.trans (congrArg some ae)
 f316:=Tryz.func354.trans (congrArg some ae)
 f317:=Tryz.func358.trans (congrArg some ae)
 f318:=Tryz.func360.trans (congrArg some ae)
 f319:=Tryz.func361.trans (congrArg some ae)
 f320:=Tryz.func362.trans (congrArg some ae)
 f321:=Tryz.func364.trans (congrArg some ae)
 f322:=Tryz.func365.trans (congrArg some ae)
 f337:=Tryz.func367.trans (congrArg some ae)
 f338:=Tryz.func368.trans (congrArg some ae)
 t0:=Tryz.underlying0
 a0:=Tryz.isAgg0
 z0:=Tryz.sizeOf0
 v0:=Tryz.zeroValue0
 t2:=Tryz.underlying2
 a2:=Tryz.isAgg2
 z2:=Tryz.sizeOf2
 v2:=Tryz.zeroValue2
 t3:=Tryz.underlying3
 a3:=Tryz.isAgg3
 z3:=Tryz.sizeOf3
 v3:=Tryz.zeroValue3
 t4:=Tryz.underlying4
 a4:=Tryz.isAgg4
 z4:=Tryz.sizeOf4
 v4:=Tryz.zeroValue4
 t5:=Tryz.underlying5
 a5:=Tryz.isAgg5
 z5:=Tryz.sizeOf5
 v5:=Tryz.zeroValue5
 t9:=Tryz.underlying9
 a9:=Tryz.isAgg9
 z9:=Tryz.sizeOf9
 v9:=Tryz.zeroValue9
 t20:=Tryz.underlying20
 a20:=Tryz.isAgg20
 z20:=Tryz.sizeOf20
 v20:=Tryz.zeroValue20
 t21:=Tryz.underlying21
 a21:=Tryz.isAgg21
 z21:=Tryz.sizeOf21
 v21:=Tryz.zeroValue21
 t37:=Tryz.underlying22
 a37:=Tryz.isAgg22
 z37:=Tryz.sizeOf22
 v37:=Tryz.zeroValue22
 t46:=Tryz.underlying218
 a46:=Tryz.isAgg218
 z46:=Tryz.sizeOf218
 v46:=Tryz.zeroValue218
 t51:=Tryz.underlying283
 a51:=Tryz.isAgg283
 z51:=Tryz.sizeOf283
 v51:=Tryz.zeroValue283
 t53:=Tryz.underlying277
 a53:=Tryz.isAgg277
 z53:=Tryz.sizeOf277
 v53:=Tryz.zeroValue277
 t75:=Tryz.underlying166
 a75:=Tryz.isAgg166
 z75:=Tryz.sizeOf166
 v75:=Tryz.zeroValue166
 t76:=Tryz.underlying167
 a76:=Tryz.isAgg167
 z76:=Tryz.sizeOf167
 v76:=Tryz.zeroValue167
 t85:=Tryz.underlying268
 a85:=Tryz.isAgg268
 z85:=Tryz.sizeOf268
 v85:=Tryz.zeroValue268
 t127:=Tryz.underlying227
 a127:=Tryz.isAgg227
 z127:=Tryz.sizeOf227
 v127:=Tryz.zeroValue227
 t143:=Tryz.underlying296
 a143:=Tryz.isAgg296
 z143:=Tryz.sizeOf296
 v143:=Tryz.zeroValue296
 t145:=Tryz.underlying298
 a145:=Tryz.isAgg298
 z145:=Tryz.sizeOf298
 v145:=Tryz.zeroValue298
 t167:=Tryz.underlying267
 a167:=Tryz.isAgg267
 z167:=Tryz.sizeOf267
 v167:=Tryz.zeroValue267
 t168:=Tryz.underlying270
 a168:=Tryz.isAgg270
 z168:=Tryz.sizeOf270
 v168:=Tryz.zeroValue270
 t171:=Tryz.underlying276
 a171:=Tryz.isAgg276
 z171:=Tryz.sizeOf276
 v171:=Tryz.zeroValue276
 t173:=Tryz.underlying280
 a173:=Tryz.isAgg280
 z173:=Tryz.sizeOf280
 v173:=Tryz.zeroValue280
 t175:=Tryz.underlying286
 a175:=Tryz.isAgg286
 z175:=Tryz.sizeOf286
 v175:=Tryz.zeroValue286
 t210:=Tryz.underlying289
 a210:=Tryz.isAgg289
 z210:=Tryz.sizeOf289
 v210:=Tryz.zeroValue289
 t212:=Tryz.underlying292
 a212:=Tryz.isAgg292
 z212:=Tryz.sizeOf292
 v212:=Tryz.zeroValue292
 t213:=Tryz.underlying293
 a213:=Tryz.isAgg293
 z213:=Tryz.sizeOf293
 t232:=Tryz.underlying305
 a232:=Tryz.isAgg305
 z232:=Tryz.sizeOf305
 v232:=Tryz.zeroValue305
 t233:=Tryz.underlying306
 a233:=Tryz.isAgg306
 z233:=Tryz.sizeOf306
 v233:=Tryz.zeroValue306
 g15:=by kernel_rfl
 g16:=by kernel_rfl
 g17:=by kernel_rfl
 g18:=by kernel_rfl
 g19:=by kernel_rfl
 t80:=Tryz.underlying170
 a80:=Tryz.isAgg170
 z80:=Tryz.sizeOf170
 v80:=Tryz.zeroValue170
 i0:=by kernel_rfl
 i2:=by kernel_rfl
 i3:=by kernel_rfl
 i4:=by kernel_rfl
 i5:=by kernel_rfl
 i9:=by kernel_rfl
 i20:=by kernel_rfl
 i21:=by kernel_rfl
 i37:=by kernel_rfl
 i46:=by kernel_rfl
 i51:=by kernel_rfl
 i53:=by kernel_rfl
 i75:=by kernel_rfl
 i76:=by kernel_rfl
 i80:=by kernel_rfl
 i85:=by kernel_rfl
 i127:=by kernel_rfl
 i143:=by kernel_rfl
 i145:=by kernel_rfl
 i167:=by kernel_rfl
 i168:=by kernel_rfl
 i171:=by kernel_rfl
 i173:=by kernel_rfl
 i175:=by kernel_rfl
 i210:=by kernel_rfl
 i212:=by kernel_rfl
 i232:=by kernel_rfl
 i233:=by kernel_rfl
 m15:=by kernel_rfl
 m16:=by kernel_rfl
 m17:=by kernel_rfl
 m18:=by kernel_rfl
 m19:=by kernel_rfl
 c0:=by kernel_rfl
 c2:=by kernel_rfl
 c3:=by kernel_rfl
 c4:=by kernel_rfl
 c5:=by kernel_rfl
 c9:=by kernel_rfl
 c20:=by kernel_rfl
 c21:=by kernel_rfl
 c37:=by kernel_rfl
 c46:=by kernel_rfl
 c51:=by kernel_rfl
 c53:=by kernel_rfl
 c75:=by kernel_rfl
 c76:=by kernel_rfl
 c80:=by kernel_rfl
 c85:=by kernel_rfl
 c127:=by kernel_rfl
 c143:=by kernel_rfl
 c145:=by kernel_rfl
 c167:=by kernel_rfl
 c168:=by kernel_rfl
 c171:=by kernel_rfl
 c173:=by kernel_rfl
 c175:=by kernel_rfl
 c210:=by kernel_rfl
 c212:=by kernel_rfl
 c213:=by kernel_rfl
 c232:=by kernel_rfl
 c233:=by kernel_rfl }
end Go.Proofs.YtbodcedhmccenaaGreatDoor
set_option maxRecDepth 8000
namespace Go.Proofs.YtbodcedhmccenaaGreatDoor
open Go Go.Dv
open Go.Vc (D dg dh cX bk)
open Go.RowKit (Below)
theorem GX {w:World} {own:Nat->Prop} (h:GlW w own):∃ty lh,w.heap[3]?=some (.cells (Lib.pow10Tab.map fun z=>Value.int .u64 z).toArray ty lh):=by
 obtain⟨_,cs,ty,lh,h2,h3⟩:=h _ (List.mem_cons_self)
 exact⟨ty,lh,by rw[<-h3];exact h2⟩
theorem tX {w:World} {own:Nat->Prop} (h:GlW w own):∃m,w.cell? ⟨0,0,none⟩=some (.int .i64 m):=by
 obtain⟨_,cs,ty,lh,h2,m,h3⟩:=h _ (List.mem_cons_of_mem _ (List.mem_cons_self))
 exact⟨m,by simp only[World.cell?,h2];exact h3⟩
theorem xD (w:World) (k:Nat) (os:Array Obj):Below w.heap.size w (Go.Sort.grow (w.drewN k) os):=
 ⟨rfl,rfl,rfl,by simp [Go.Sort.grow,World.drewN],fun i hi=>by simp [Go.Sort.grow,World.drewN,Array.getElem?_append,hi]⟩
def d5 (n:Int):ByteArray:=⟨(Lib.itoa n).toArray⟩
theorem fa (u:Nat):∀k,u<10 ^ (k+1)->(Lib.decDigits u).length<=k+1:=by
 intro k
 induction k generalizing u with
 |zero=>intro h;rw[Lib.decDigits,dif_pos (by simpa using h)];simp
 |succ k ih=>
  intro h
  rw[Lib.decDigits]
  split
  ·simp
  ·have:=ih (u / 10) (by rw[Nat.pow_succ] at h;omega)
   simp only[aC,List.length_singleton];omega
theorem qC {n:Int} (h0 : -9223372036854775808<=n) (h1:n<=9223372036854775807):(Lib.itoa n).length<=20:=by
 unfold Lib.itoa
 split
 ·have:=fa n.natAbs 18 aa
  simp only[List.length_cons];omega
 ·have:=fa n.toNat 18 aa
  omega
theorem xE {n:Int} (h0 : -9223372036854775808<=n) (h1:n<=9223372036854775807):(d5 n).size<=20:=by
 show (List.toArray _).size<=20
 simpa using qC h0 h1
theorem GY (n:Int) (h0 : -9223372036854775808<=n) (h1:n<=9223372036854775807):Cl Tryz.prog 260 [vi n] [] fun r _=>r=vs (d5 n):=
 Cl.ofVals ae [.int .i64 n] fun w hg=>by
  obtain⟨ty,lh,hp⟩:=GX hg
  refine (Any.strconv_Itoa Tryz.laysM171 n h0 h1 w ?_).mono ?_
  ·unfold Lib.TabIs World.var?
   rw[show Tryz.prog.globalNamed _=some 3 by kernel_rfl]
   simp only[Option.bind_some,hp]
  ·rintro e w' ⟨rfl,k,os,rfl⟩
   have:=xE h0 h1
   exact⟨_,rfl,by show ByteArray.size _<=maxLen;simp only[maxLen];exact Nat.le_trans this ah,rfl,xD w k os⟩
end Go.Proofs.YtbodcedhmccenaaGreatDoor
set_option maxRecDepth 8000
namespace Go.Proofs.YtbodcedhmccenaaGreatDoor
open Go Go.Dv
open Go.Vc (D dg dh cX bk)
open Go.RowKit (Below)
open Go.Vc (CellF RowF ValsF okV)
def oP:ByteArray:=⟨#[83,69,76,69,67,84,32,68,73,83,84,73,78,67,84,32,70,82,79,77,32,74,79,73,78,32,79,78,32,87,72,69,82,69,32,79,82,68,69,82,32,66,89,32,65,83,67,32,68,69,83,67,32,76,73,77,73,84,32,65,83,32,65,78,68,32,79,82,32,78,79,84,32,73,83,32,73,78,32,66,69,84,87,69,69,78,32,69,88,73,83,84,83,32,78,85,76,76,32,84,82,85,69,32,70,65,76,83,69,32,73,78,83,69,82,84,32,73,78,84,79,32,86,65,76,85,69,83,32,85,80,68,65,84,69,32,83,69,84,32,68,69,76,69,84,69]⟩
theorem Au:Lib.splitB ⟨#[32]⟩ 0 (Lib.countB oP ⟨#[32]⟩) oP=kws:=by decide +kernel
theorem Av:Lib.countB oP ⟨#[32]⟩=27:=by decide +kernel
theorem sO (w:World):∀l:List ByteArray,(∀s∈l,s.size<=maxLen)->ValsF w (l.flatMap srow) (l.map Value.string) []
 | [],_=>rfl
 |s::r,h=>⟨[],[],⟨rfl,rfl,h s (by simp)⟩,sO w r fun x hx=>h x (by simp [hx]),rfl⟩
theorem sP (w w':World) (ty:TypeId) (l:List ByteArray) (hl:l≠[]) (hs:∀s∈l,s.size<=maxLen) (hn:l.length<=maxLen) (β:Nat->Option Nat) (hw:w'.heap[w.heap.size]?=some (.cells (l.map Value.string).toArray ty (0,0))) :
 RelS Tryz.prog w' β (fun b=>w.heap.size<=b) (.c (.sl l.length (l.flatMap srow) none)) (.slice (some ⟨w.heap.size,0,none⟩) l.length l.length):=by
 have hrow:RowF w' w.heap.size 0 (l.flatMap srow) []:=(sO w' l hs).row fun j v hj=>by
  rw[cell_of_row w' w.heap.size (0+j) _ _ _ hw];simpa using hj
 refine⟨[w.heap.size],⟨some ⟨w.heap.size,0,none⟩,l.length,rfl,Nat.le_refl _,hn,(fun e=>by cases e),.inr ⟨?_,w.heap.size,0,[],rfl,hrow,rfl⟩⟩,(fun b hb=>by simp at hb;omega),(fun _ e=>by cases e)⟩
 cases l with
 |nil=>exact absurd rfl hl
 |cons s r=>simp [srow]
theorem Ei:Cl Tryz.prog 259 [vs oP,vs ⟨#[32]⟩] [] fun r _=>r = .c (.sl 28 (kws.flatMap srow) none):=
 Cl.ofNew ae [.string oP,.string ⟨#[32]⟩] fun w hg=>by
  obtain⟨m,hm⟩:=tX hg
  refine (Any.strings_Split Tryz.lays146 ae oP ⟨#[32]⟩ m w ah hm ah).mono ?_
  rintro e w' ⟨rfl,rfl⟩
  rw[Au,Av]
  refine⟨_,_,rfl,rfl,by rfl,fun β=>sP w _ _ kws ah (fun s hs=>Nat.le_trans (sM s hs) ah) ah β (Go.heap_alloc_new w _),⟨rfl,rfl,rfl,by simp,fun i hi=>Go.heap_alloc_old w _ hi⟩⟩
theorem xF:Cl Tryz.prog 300 [] [] fun r _=>r = .c (.sl 28 (kws.flatMap srow) none):=by
 refine ai ac false Tryz.func300 rfl ae ?_
 simp only[tt,seval,Tryz.f300]
 refine fV Ei ?_ ?_ ?_
 ·decide
 ·simp only[tt,seval]
  rfl
 rintro r rfl
 simp only[tt,seval]
 exact⟨_,_,rfl,ap rfl⟩
theorem nD (s:ByteArray) (hs:s.size<=1048576):Cl Tryz.prog 251 [vs s] [] fun r _=>r=vi (key s):=by
 refine ai ac false Tryz.func251 rfl ae ?_
 simp only[Tryz.f251,tt,seval]
 refine cZ (xF) ?_ ?_<;>simp only[tt,seval]
 refine cZ (qc s hs) ?_ ?_<;>simp only[tt,seval]
 refine cZ (yP kws (bW s)) ?_ ?_<;>simp only[tt,seval,nC]
 have h1 : -1<=mP (bW s) kws/\mP (bW s) kws<=28:=by
  unfold mP
  have:=nC
  split<;>omega
 rw[ax (n:=mP (bW s) kws+1) aa aa]
 exact⟨_,_,rfl,ap rfl⟩
end Go.Proofs.YtbodcedhmccenaaGreatDoor
set_option maxRecDepth 8000
namespace Go.Proofs.YtbodcedhmccenaaGreatDoor
open Go Go.Dv
open Go.Vc (D dg dh cX bk)
def kW (b:Int):Bool:=jX b||decide (48<=b/\b<=57)
def dm (s:ByteArray):Bool:=decide (1<=s.size/\s.size<=20)&&(!decide (48<=((s.data.toList.headD 0).toNat:Int)/\((s.data.toList.headD 0).toNat:Int)<=57)&&(decide (key s=0)&&s.data.toList.all fun b=>kW b.toNat))
theorem cI {n:Nat} {d:Option Nat} {K:K0} {f:Rg} {L:Ob} {p:Po} {k:IntKind} {s:ByteArray} {i:Nat} {l:List UInt8} (hl:l=s.data.toList) (hi:i<l.length) :
 cm Tryz.prog n d (Instr.index 9 (.string s) (.int k (i:Int))) K f L p=K (put n f d (.c (.v (.int .u8 (l[i].toNat:Int))))) L p:=by
 subst hl
 have hi':i<s.size:=by rw[<-aE];exact hi
 rw[CX ae aa aa]
 congr 6
theorem kX {n:Nat} {d:Option Nat} {K:K0} {f:Rg} {L:Ob} {p:Po} {k:IntKind} {s:ByteArray} {l:List UInt8} (hl:l=s.data.toList) (hi:0<l.length) :
 cm Tryz.prog n d (Instr.index 9 (.string s) (.int k 0)) K f L p=K (put n f d (.c (.v (.int .u8 (l[0].toNat:Int))))) L p:=cI (i:=0) hl hi
theorem qD (s:ByteArray):0<=key s:=by unfold key mP;split<;>omega
theorem kY (s:ByteArray) (hs:s.size<=1048576):Cl Tryz.prog 319 [vs s] [] fun r _=>r=vb (dm s):=by
 obtain⟨l,hl⟩:∃l,l=s.data.toList:=⟨_,rfl⟩
 have hll:l.length=s.size:=by rw[hl];exact aE s
 refine ai ac false Tryz.func319 rfl ae ?_
 simp only[Tryz.f319,tt,seval]
 refine cZ (jt s) ?_ ?_<;>simp only[tt,seval]
 cases hN:decide (1<=s.size/\s.size<=20) with
 |false=>
  simp only[tt,seval]
  exact⟨_,_,aU (by rw[dm,hN];rfl),ap rfl⟩
 |true=>
  have hN':=of_decide_eq_true hN
  have hp:(0:Int)<(s.size:Int):=by omega
  have hlp:0<l.length:=by omega
  simp only[tt,seval]
  rw[kX hl aa]
  simp only[tt,seval]
  refine cZ (jW l[0].toNat) ?_ ?_<;>simp only[tt,seval]
  have hh:s.data.toList.headD 0=l[0]:=by rw[<-hl];cases l with|nil=>exact absurd hlp (Nat.lt_irrefl _)|cons x r=>rfl
  cases hF:decide ((48:Int)<=(l[0].toNat:Int)/\(l[0].toNat:Int)<=57) with
  |true=>
   simp only[tt,seval]
   exact⟨_,_,aU (by rw[dm,hN,hh,hF];rfl),ap rfl⟩
  |false=>
   simp only[tt,seval]
   refine cZ (tW s hs) ?_ ?_<;>simp only[tt,seval]
   have hk:=qD s
   refine ab (fun h=>?_) (fun h=>?_)
   ·exact⟨_,_,aU (by rw[dm,hN,hh,hF,au (show ¬key s=0 by omega)];rfl),ap rfl⟩
   ·have hpn:dm s=l.all fun b=>kW b.toNat:=by rw[dm,hN,hh,hF,az (show key s=0 by omega),<-hl];rfl
    rw[hpn]
    refine dLoop.intro (fun f' L p=>∃i:Nat,f' 3=vi i/\i<=s.size/\(∀j (hj:j<l.length),j<i->kW l[j].toNat=true)/\L=[]/\p=none) (fun f' _ _=>(s.size-eH (f' 3)).toNat) [] none ⟨ao _,aq _,?_⟩ ?_
    ·simp only[tt,seval]
     exact⟨0,rfl,aa,fun j _ h=>absurd h (Nat.not_lt_zero _)⟩
    ·rintro g L p ⟨i,h3,hi,hn,rfl,rfl⟩
     simp only[tt,seval] at h3
     simp only[tt,seval,h3,Int.ofNat_lt]
     refine fun _=>ab (fun hlt=>?_) (fun hge=>?_)
     ·have hil:i<l.length:=by omega
      rw[cI hl hil]
      simp only[tt,seval]
      refine cZ (mO l[i].toNat) ?_ ?_<;>simp only[tt,seval]
      cases hL:jX l[i].toNat with
      |true=>
       simp only[tt,seval,h3]
       rw[eS i aa]
       exact⟨[],none,ao _,aq _,⟨i+1,rfl,aa,fun j hj hji=>by
        by_cases e:j=i
        ·subst e;rw[kW,hL];rfl
        ·exact hn j hj aa,rfl,rfl⟩,aB⟩
      |false=>
       simp only[tt,seval,h3]
       rw[cI hl hil]
       simp only[tt,seval]
       refine cZ (jW l[i].toNat) ?_ ?_<;>simp only[tt,seval,h3]
       refine ab (fun h=>?_) (fun h=>?_)
       ·simp only[Bool.not_eq_true',decide_eq_false_iff_not] at h
        refine⟨_,_,aU ?_,ap rfl⟩
        refine (Bool.eq_false_iff.2 fun e=>?_).symm
        have:=List.all_eq_true.1 e _ (aO hil)
        rw[kW,hL,Bool.false_or,decide_eq_true_eq] at this
        exact h this
       ·simp only[Bool.not_eq_false',decide_eq_true_eq] at h
        rw[eS i aa]
        exact⟨[],none,ao _,aq _,⟨i+1,rfl,aa,fun j hj hji=>by
         by_cases e:j=i
         ·subst e;rw[kW,hL,Bool.false_or,decide_eq_true_eq];omega
         ·exact hn j hj aa,rfl,rfl⟩,aB⟩
     ·refine⟨_,_,aU ?_,ap rfl⟩
      refine (List.all_eq_true.2 fun x hx=>?_).symm
      obtain⟨j,hj,rfl⟩:=List.mem_iff_getElem.1 hx
      exact hn j hj aa
theorem jZ (s:ByteArray) (hs:s.size<=1048576):Cl Tryz.prog 258 [vs s] [] fun r _=>r=vb (dm s):=by
 obtain⟨l,hl⟩:∃l,l=s.data.toList:=⟨_,rfl⟩
 have hll:l.length=s.size:=by rw[hl];exact aE s
 refine ai ac false Tryz.func258 rfl ae ?_
 simp only[Tryz.f258,tt,seval]
 refine cZ (g6 s) ?_ ?_<;>simp only[tt,seval]
 cases hN:decide (1<=s.size/\s.size<=20) with
 |false=>
  simp only[tt,seval]
  exact⟨_,_,aU (by rw[dm,hN];rfl),ap rfl⟩
 |true=>
  have hN':=of_decide_eq_true hN
  have hp:(0:Int)<(s.size:Int):=by omega
  have hlp:0<l.length:=by omega
  simp only[tt,seval]
  rw[kX hl aa]
  simp only[tt,seval]
  refine cZ (me l[0].toNat) ?_ ?_<;>simp only[tt,seval]
  have hh:s.data.toList.headD 0=l[0]:=by rw[<-hl];cases l with|nil=>exact absurd hlp (Nat.lt_irrefl _)|cons x r=>rfl
  have hsp:0<s.size:=by omega
  cases hF:decide ((48:Int)<=(l[0].toNat:Int)/\(l[0].toNat:Int)<=57) with
  |true=>
   simp only[tt,seval]
   exact⟨_,_,aU (by rw[dm,hN,hh,hF];rfl),ap rfl⟩
  |false=>
   simp only[tt,seval]
   refine cZ (nD s hs) ?_ ?_<;>simp only[tt,seval]
   have hk:=qD s
   refine ab (fun h=>?_) (fun h=>?_)
   ·exact⟨_,_,aU (by rw[dm,hN,hh,hF,au (show ¬key s=0 from by simpa using h)];rfl),ap rfl⟩
   ·have hpn:dm s=l.all fun b=>kW b.toNat:=by rw[dm,hN,hh,hF,az (show key s=0 from by simpa using h),<-hl];rfl
    rw[hpn]
    refine fun _=>?_
    refine dLoop.intro (fun f' L p=>∃i:Nat,f' 19=vi i/\i<=s.size/\(∀j (hj:j<l.length),j<i->kW l[j].toNat=true)/\L=[]/\p=none) (fun f' _ _=>(s.size-eH (f' 19)).toNat) [] none ⟨ao _,aq _,?_⟩ ?_
    ·simp only[tt,seval]
     exact⟨0,rfl,aa,fun j _ h=>absurd h (Nat.not_lt_zero _)⟩
    ·rintro g L p ⟨i,h3,hi,hn,rfl,rfl⟩
     simp only[tt,seval] at h3
     simp only[tt,seval,h3,Int.ofNat_lt]
     refine ab (fun hlt=>?_) (fun hge=>?_)
     ·have hil:i<l.length:=by omega
      rw[cI hl hil]
      simp only[tt,seval]
      refine cZ (qy l[i].toNat) ?_ ?_<;>simp only[tt,seval,h3]
      refine ab (fun h=>?_) (fun h=>?_)
      ·refine⟨_,_,aU ?_,ap rfl⟩
       refine (Bool.eq_false_iff.2 fun e=>?_).symm
       have:=List.all_eq_true.1 e _ (aO hil)
       rw[kW] at this
       rw[this] at h;cases h
      ·rw[eS i aa]
       exact⟨[],none,ao _,aq _,⟨i+1,rfl,aa,fun j hj hji=>by
        by_cases e:j=i
        ·subst e;rw[kW];simpa only[Bool.not_eq_false'] using h
        ·exact hn j hj aa,rfl,rfl⟩,aB⟩
     ·refine⟨_,_,aU ?_,ap rfl⟩
      refine (List.all_eq_true.2 fun x hx=>?_).symm
      obtain⟨j,hj,rfl⟩:=List.mem_iff_getElem.1 hx
      exact hn j hj aa
def be (c:UInt8) (l:List UInt8):List UInt8:=l.flatMap fun b=>if b=c then [c,c] else [b]
def k8 (c:UInt8) (s:ByteArray):ByteArray:=⟨(c::(be c s.data.toList++[c])).toArray⟩
theorem kb (c:UInt8) (l:List UInt8):(be c l).length<=2*l.length:=by
 induction l with
 |nil=>simp [be]
 |cons b r ih=>
  unfold be at *
  rw[List.flatMap_cons,aC,List.length_cons]
  split<;>simp only[List.length_cons,List.length_nil]<;>omega
theorem py {c:UInt8} {l:List UInt8} {i:Nat} (h:i<l.length):be c (l.take (i+1))=be c (l.take i)++(if l[i]=c then [c,c] else [l[i]]):=by
 unfold be
 rw[List.take_succ_eq_append_getElem h,List.flatMap_append,List.flatMap_cons,List.flatMap_nil,List.append_nil]
theorem dS (l:List UInt8) (b:UInt8):aR l++[D.lit (.int .u8 (b.toNat:Int))]=aR (l++[b]):=by simp [aR]
theorem sQ (s:ByteArray) (c:UInt8) (hs:s.size<=1048576):Cl Tryz.prog 320 [vs s,vu (c.toNat:Int)] [] fun r _=>r=vs (k8 c s):=by
 obtain⟨l,hl⟩:∃l,l=s.data.toList:=⟨_,rfl⟩
 have hll:l.length=s.size:=by rw[hl];exact aE s
 refine ai ac false Tryz.func320 rfl ae ?_
 simp only[Tryz.f320,tt,seval]
 refine dLoop.gh [.ren 8 29] ⟨ah,ah,?_⟩
 refine dLoop0.intro (fun f L p=>∃(i:Nat) (bs:List UInt8),f 6=vi i/\f 5 = .c (.s 29 bs.length)/\i<=s.size/\bs=c::be c (l.take i)/\L=[(29,.arr 5 bs.length (aR bs) none)]/\p=none) (fun f _ _=>(s.size-eH (f 6)).toNat) [(29,.arr 5 1 (aR [c]) none)] none ⟨ak rfl (ao _),aq _,?_⟩ ?_
 ·simp only[tt,seval]
  exact⟨0,[c],rfl,rfl,aa,rfl,rfl⟩
 ·rintro g L p ⟨i,bs,h6,h5,hi,hbs,rfl,rfl⟩
  simp only[tt,seval] at h6 h5
  have hbl:bs.length<=1+2*i:=by
   have:=kb c (l.take i)
   rw[hbs,List.length_cons]
   rw[List.length_take] at this;omega
  simp only[tt,seval,h6,h5,Int.ofNat_lt]
  refine fun _=>ab (fun hlt=>?_) (fun hge=>?_)
  ·have hil:i<l.length:=by omega
   rw[cI hl hil]
   simp only[tt,seval,h6,h5]
   refine ab (fun heq=>?_) (fun hne=>?_)
   ·have hc:l[i]=c:=UInt8.toNat_inj.1 aa
    refine kU ?_
    rw[cI hl hil,dS]
    simp only[tt,seval,h6]
    refine kU ?_
    rw[dS,ax (n:=(i:Int)+1) aa aa]
    refine⟨[(29,.arr 5 (bs++[c]++[l[i]]).length (aR (bs++[c]++[l[i]])) none)],none,ak (by simp [Go.Dv.look,Nat.add_assoc]) (ao _),aq _,⟨i+1,bs++[c]++[l[i]],rfl,by simp,aa,?_,rfl,rfl⟩,aB⟩
    rw[py hil,if_pos hc,hbs,hc];simp
   ·have hc:¬l[i]=c:=fun e=>hne (by rw[e])
    rw[cI hl hil]
    simp only[tt,seval,h6]
    refine kU ?_
    rw[dS,ax (n:=(i:Int)+1) aa aa]
    refine⟨[(29,.arr 5 (bs++[l[i]]).length (aR (bs++[l[i]])) none)],none,ak (by simp [Go.Dv.look]) (ao _),aq _,⟨i+1,bs++[l[i]],rfl,by simp,aa,?_,rfl,rfl⟩,aB⟩
    rw[py hil,if_neg hc,hbs];simp
  ·have:i=s.size:=by omega
   subst this
   refine kU ?_
   rw[dS]
   refine⟨ae,by simp only[maxLen];omega,bs++[c],by simp,rfl,?_⟩
   simp only[tt,seval]
   refine⟨_,_,jr ?_,ap rfl⟩
   rw[hbs,<-hll,List.take_length,hl];rfl
end Go.Proofs.YtbodcedhmccenaaGreatDoor
set_option maxRecDepth 8000
namespace Go.Proofs.YtbodcedhmccenaaGreatDoor
open Go Go.Dv
open Go.Vc (D dg dh cX bk)
open Go.RowKit (Below)
open Go.Vc (okV)
theorem kZ (c:UInt8):∀l:List UInt8,c ∉ l->Lib.index l [c] = -1
 | [],_=>rfl
 |b::l,h=>by
  simp only[List.mem_cons,not_or] at h
  have ih:=kZ c l h.2
  have hb:([c]:List UInt8).isPrefixOf (b::l)=false:=by simp [List.isPrefixOf,h.1]
  simp [Lib.index,hb,ih]
theorem sR (c:UInt8):∀a r:List UInt8,c ∉ a->Lib.index (a++c::r) [c]=a.length
 | [],r,_=>by simp [Lib.index,List.isPrefixOf]
 |b::a,r,h=>by
  simp only[List.mem_cons,not_or] at h
  have ih:=sR c a r h.2
  have hb:([c]:List UInt8).isPrefixOf (b::(a++c::r))=false:=by simp [List.isPrefixOf,h.1]
  have hne:¬((a.length:Int) = -1):=by omega
  simp [Lib.index,hb,ih,hne]
theorem l4 {c:UInt8}:∀ {l:List UInt8},c ∉ l->be c l=l
 | [],_=>rfl
 |b::l,h=>by
  simp only[List.mem_cons,not_or] at h
  have ih:=l4 h.2
  unfold be at *
  rw[List.flatMap_cons,ih,if_neg (fun e=>h.1 e.symm)];rfl
theorem tY (c:UInt8):∀(n:Nat) (l:List UInt8),l.length<=n->Lib.replaceK [c] [c,c] (Lib.count l [c]) l=be c l:=by
 intro n
 induction n with
 |zero=>
  intro l h
  have:l=[]:=List.eq_nil_of_length_eq_zero aa
  subst this
  rw[Lib.count_miss (kZ c [] (by simp))];rfl
 |succ n ih=>
  intro l h
  by_cases hc:c∈l
  ·obtain⟨a,r,rfl,ha⟩:=List.eq_append_cons_of_mem hc
   have hi:=sR c a r ha
   have hdrop:(a++c::r).drop (a.length+[c].length)=r:=by
    rw[show a++c::r=(a++[c])++r by simp,List.drop_left' (by simp)]
   rw[Lib.count_hit (by simp) hi,Nat.add_comm,Lib.replaceK_hit _ _ _ _ _ hi,hdrop,ih r (by simp at h;omega),List.take_left' rfl]
   unfold be
   rw[List.flatMap_append,List.flatMap_cons,if_pos rfl]
   have:=l4 ha
   unfold be at this
   rw[this];simp
  ·rw[Lib.count_miss (kZ c l hc),l4 hc];rfl
theorem qE (c:UInt8) (l:List UInt8):Lib.replaceAll l [c] [c,c]=be c l:=by
 have hne:([c]==[c,c])=false:=by simp
 unfold Lib.replaceAll Lib.replace Lib.replaceNum
 rw[hne,if_neg (by simp),if_pos (by simp)]
 exact tY c l.length l (Nat.le_refl _)
theorem data_append (a b:ByteArray):(a++b).data.toList=a.data.toList++b.data.toList:=by rw[ByteArray.data_append,Array.toList_append]
def one (c:UInt8):ByteArray:=⟨#[c]⟩
theorem vj (c:UInt8):(one c++one c).data.toList=[c,c]:=by rw[data_append];rfl
theorem tZ (s:ByteArray) (c:UInt8) (hs:s.size<=1048576):Cl Tryz.prog 328 [vs s,vs (one c),vs (one c++one c)] [] fun r _=>r=vs ⟨(be c s.data.toList).toArray⟩:=
 Cl.ofVals ae [.string s,.string (one c),.string (one c++one c)] fun w hg=>by
  obtain⟨m,hm⟩:=tX hg
  have h2:(one c++one c).size=2:=by rw[<-aE,vj];rfl
  have hcnt:Lib.countB s (one c)<=s.size:=Lib.countB_le (one c) (Nat.le_refl 1) s.size s (Nat.le_refl _)
  refine (Any.strings_ReplaceAll Tryz.lays155 Tryz.Builder_Extra_155 s (one c) (one c++one c) m w aa hm (Nat.le_refl 1) (by rw[h2];omega)).mono ?_
  rintro e w' ⟨rfl,hb⟩
  rw[vj,show (one c).data.toList=[c] from rfl,qE]
  refine⟨_,rfl,?_,rfl,hb⟩
  show (List.toArray _).size<=maxLen
  have:=kb c s.data.toList
  rw[aE] at this
  simp only[List.size_toArray,maxLen];omega
theorem mQ {a b:ByteArray} (h:a.data.toList=b.data.toList):a=b:=by
 obtain⟨⟨x⟩⟩:=a;obtain⟨⟨y⟩⟩:=b
 simp only at h;rw[h]
theorem BH (a b:ByteArray):(a++b).size=a.size+b.size:=by rw[<-aE,data_append,aC,aE,aE]
theorem vk (s:ByteArray) (c:UInt8) (hs:s.size<=1048576):Cl Tryz.prog 304 [vs s,vs (one c)] [] fun r _=>r=vs (k8 c s):=by
 have h1:(one c).size=1:=rfl
 refine ai ac false Tryz.func304 rfl ae ?_
 simp only[Tryz.f304,tt,seval]
 rw[fU aa]
 refine cZ (tZ s c hs) ?_ ?_<;>simp only[tt,seval]
 have hq:(⟨(be c s.data.toList).toArray⟩:ByteArray).size<=2*s.size:=by
  have:=kb c s.data.toList
  rw[aE] at this
  show (List.toArray _).size<=_
  simpa using this
 rw[fU aa]
 simp only[tt,seval]
 rw[fU (by rw[BH];omega)]
 simp only[tt,seval]
 exact⟨_,_,jr (mQ (by rw[data_append,data_append];simp [one,k8])),ap rfl⟩
def gA (s:ByteArray):ByteArray:=if 1<=s.size/\s.size<=20 then (if dm s=true then s else k8 34 s) else ⟨#[]⟩
theorem vl (s:ByteArray) (hs:s.size<=1048576):Cl Tryz.prog 286 [vs s] [] fun r _=>r=vs (k8 39 s):=by
 refine ai ac false Tryz.func286 rfl ae ?_
 simp only[Tryz.f286,tt,seval]
 refine cZ (sQ s 39 hs) ?_ ?_<;>simp only[tt,seval]
 exact⟨_,_,rfl,ap rfl⟩
theorem nE (s:ByteArray) (hs:s.size<=1048576):Cl Tryz.prog 257 [vs s] [] fun r _=>r=vs (k8 39 s):=by
 refine ai ac false Tryz.func257 rfl ae ?_
 simp only[Tryz.f257,tt,seval]
 refine cZ (vk s 39 hs) ?_ ?_<;>simp only[tt,seval,one]
 exact⟨_,_,rfl,ap rfl⟩
theorem xG (s:ByteArray) (hs:s.size<=1048576):Cl Tryz.prog 285 [vs s] [] fun r _=>r=vs (gA s):=by
 refine ai ac false Tryz.func285 rfl ae ?_
 simp only[Tryz.f285,tt,seval]
 refine cZ (jt s) ?_ ?_<;>simp only[tt,seval]
 refine ab (fun h=>?_) (fun h=>?_)
 ·exact⟨_,_,jr (by rw[gA,if_neg (by simpa only[Bool.not_eq_true',decide_eq_false_iff_not] using h)]),ap rfl⟩
 ·skip
  refine cZ (kY s hs) ?_ ?_<;>simp only[tt,seval]
  have h':1<=s.size/\s.size<=20:=by simpa only[Bool.not_eq_false',decide_eq_true_eq] using h
  refine ab (fun hp=>?_) (fun hp=>?_)
  ·exact⟨_,_,jr (by rw[gA,if_pos h',if_pos hp]),ap rfl⟩
  ·skip
   refine cZ (sQ s 34 hs) ?_ ?_<;>simp only[tt,seval]
   exact⟨_,_,jr (by rw[gA,if_pos h',if_neg (by rw[hp];simp)]),ap rfl⟩
theorem vm (s:ByteArray) (hs:s.size<=1048576):Cl Tryz.prog 256 [vs s] [] fun r _=>r=vs (gA s):=by
 refine ai ac false Tryz.func256 rfl ae ?_
 simp only[Tryz.f256,tt,seval]
 refine cZ (g6 s) ?_ ?_<;>simp only[tt,seval]
 refine ab (fun h=>?_) (fun h=>?_)
 ·exact⟨_,_,jr (by rw[gA,if_neg (by simpa only[Bool.not_eq_true',decide_eq_false_iff_not] using h)]),ap rfl⟩
 ·skip
  refine cZ (jZ s hs) ?_ ?_<;>simp only[tt,seval]
  have h':1<=s.size/\s.size<=20:=by simpa only[Bool.not_eq_false',decide_eq_true_eq] using h
  refine ab (fun hp=>?_) (fun hp=>?_)
  ·exact⟨_,_,jr (by rw[gA,if_pos h',if_pos hp]),ap rfl⟩
  ·skip
   refine cZ (vk s 34 hs) ?_ ?_<;>simp only[tt,seval,one]
   exact⟨_,_,jr (by rw[gA,if_pos h',if_neg (by rw[hp];simp)]),ap rfl⟩
end Go.Proofs.YtbodcedhmccenaaGreatDoor
set_option maxRecDepth 8000
namespace Go.Proofs.YtbodcedhmccenaaGreatDoor
open Go Go.Dv
open Go.Vc (D dg dh cX bk)
def dE (v:Val):Bool:=
 if v.kind=0 then decide (v.num=0)&&decide (v.text=⟨#[]⟩) else if v.kind=1 then decide (v.text=⟨#[]⟩)
 else if v.kind=2 then decide (v.num=0)&&decide ((v.text.size:Int)<=200) else if v.kind=3 then decide (0<=v.num/\v.num<=1)&&decide (v.text=⟨#[]⟩) else false
theorem Aw (v:Val):Cl Tryz.prog 314 [.ag (ar v.row)] [] fun r _=>r=vb (dE v):=by
 rw[Val.row]
 refine ai ac false Tryz.func314 rfl ae ?_
 simp only[Tryz.f314,tt,seval]
 refine ab (fun h0=>?_) (fun h0=>?_)
 ·refine ab (fun h=>?_) (fun h=>?_)<;>simp only[tt,seval]
  ·exact⟨_,_,aU (by rw[dE,if_pos h0,h];rfl),ap rfl⟩
  ·exact⟨_,_,aU (by rw[dE,if_pos h0,h];rfl),ap rfl⟩
 ·try simp only[tt,seval]
  refine ab (fun h1=>?_) (fun h1=>?_)
  ·exact⟨_,_,aU (by rw[dE,if_neg h0,if_pos h1]),ap rfl⟩
  ·try simp only[tt,seval]
   refine ab (fun h2=>?_) (fun h2=>?_)
   ·refine ab (fun h=>?_) (fun h=>?_)<;>simp only[tt,seval]
    ·exact fun _=>⟨_,_,aU (by rw[dE,if_neg h0,if_neg h1,if_pos h2,h];rfl),ap rfl⟩
    ·exact⟨_,_,aU (by rw[dE,if_neg h0,if_neg h1,if_pos h2,h];rfl),ap rfl⟩
   ·try simp only[tt,seval]
    refine ab (fun h3=>?_) (fun h3=>?_)
    ·try simp only[tt,seval]
     refine cZ (dA v.num 0 1) ?_ ?_<;>simp only[tt,seval]
     cases hn:decide ((0:Int)<=v.num/\v.num<=1)<;>simp only[tt,seval]
     ·exact⟨_,_,aU (by rw[dE,if_neg h0,if_neg h1,if_neg h2,if_pos h3,hn];rfl),ap rfl⟩
     ·exact⟨_,_,aU (by rw[dE,if_neg h0,if_neg h1,if_neg h2,if_pos h3,hn];rfl),ap rfl⟩
    ·exact⟨_,_,aU (by rw[dE,if_neg h0,if_neg h1,if_neg h2,if_neg h3]),ap rfl⟩
theorem qF (v:Val):Cl Tryz.prog 315 [.ag (ar v.row)] [] fun r _=>r=vb (dE v):=by
 rw[Val.row]
 refine ai ac false Tryz.func315 rfl ae ?_
 simp only[Tryz.f315,tt,seval]
 refine ab (fun h0=>?_) (fun h0=>?_)
 ·refine ab (fun h=>?_) (fun h=>?_)<;>simp only[tt,seval]
  ·exact⟨_,_,aU (by rw[dE,if_pos h0,h];rfl),ap rfl⟩
  ·exact⟨_,_,aU (by rw[dE,if_pos h0,h];rfl),ap rfl⟩
 ·try simp only[tt,seval]
  refine ab (fun h1=>?_) (fun h1=>?_)
  ·exact⟨_,_,aU (by rw[dE,if_neg h0,if_pos h1]),ap rfl⟩
  ·try simp only[tt,seval]
   refine ab (fun h2=>?_) (fun h2=>?_)
   ·refine ab (fun h=>?_) (fun h=>?_)<;>simp only[tt,seval]
    ·exact fun _=>⟨_,_,aU (by rw[dE,if_neg h0,if_neg h1,if_pos h2,h];rfl),ap rfl⟩
    ·exact⟨_,_,aU (by rw[dE,if_neg h0,if_neg h1,if_pos h2,h];rfl),ap rfl⟩
   ·try simp only[tt,seval]
    refine ab (fun h3=>?_) (fun h3=>?_)
    ·have fin:∀b:Bool,decide ((0:Int)<=v.num/\v.num<=1)=b->dE v=(b&&decide (v.text=⟨#[]⟩)):=fun b hb=>by rw[dE,if_neg h0,if_neg h1,if_neg h2,if_pos h3,hb]
     by_cases hz:v.num=0
     ·simp only[tt,seval,az hz]
      exact⟨_,_,aU (by rw[fin true (az aa)];rfl),ap rfl⟩
     ·simp only[tt,seval,au hz]
      by_cases ho:v.num=1
      ·simp only[tt,seval,az ho]
       exact⟨_,_,aU (by rw[fin true (az aa)];rfl),ap rfl⟩
      ·simp only[tt,seval,au ho]
       exact⟨_,_,aU (by rw[fin false (au aa)];rfl),ap rfl⟩
    ·exact⟨_,_,aU (by rw[dE,if_neg h0,if_neg h1,if_neg h2,if_neg h3]),ap rfl⟩
def qG (v:Val):ByteArray:=
 if dE v=false then ⟨#[63]⟩ else if v.kind=1 then d5 v.num else if v.kind=2 then k8 39 v.text else if v.kind=3 then (if v.num=1 then ⟨#[84,82,85,69]⟩ else ⟨#[70,65,76,83,69]⟩) else ⟨#[78,85,76,76]⟩
theorem mf (n:Int) (h0 : -9223372036854775808<=n) (h1:n<=9223372036854775807):Cl Tryz.prog 164 [vi n] [] fun r _=>r=vs (d5 n):=by
 refine ai ac false Tryz.func164 rfl ae ?_
 simp only[Tryz.f164,tt,seval]
 refine cZ (GY n h0 h1) ?_ ?_<;>simp only[tt,seval]
 exact⟨_,_,rfl,ap rfl⟩
def sg (b:Bool) (k:Nat):Int:=if b=true then -(k:Int) else k
theorem GZ (b:Bool) (k:Nat):(sg b k).tmod 10=sg b (k % 10):=by
 unfold sg;split
 ·rw[Int.neg_tmod];rfl
 ·rfl
theorem BI (b:Bool) (k:Nat):(sg b k).tdiv 10=sg b (k / 10):=by
 unfold sg;split
 ·rw[Int.neg_tdiv];rfl
 ·rfl
theorem yQ (b:Bool) (k:Nat):sg b k=0↔k=0:=by unfold sg;split<;>omega
def oQ (k:Nat):UInt8:=UInt8.ofNat (48+k % 10)
theorem BJ (k:Nat):((oQ k).toNat:Int)=48+(k % 10:Nat):=by
 unfold oQ
 rw[UInt8.toNat_ofNat']
 omega
theorem l5 {k:Nat} (h:k / 10≠0):Lib.decDigits k=Lib.decDigits (k / 10)++[oQ k]:=by
 rw[Lib.decDigits,dif_neg aa];rfl
theorem kD {k:Nat} (h:k / 10=0):Lib.decDigits k=[oQ k]:=by
 have:k % 10=k:=by omega
 rw[Lib.decDigits,dif_pos aa,oQ,this]
theorem nF (n:Int) (h0 : -9223372036854775808<=n) (h1:n<=9223372036854775807):Cl Tryz.prog 142 [vi n] [] fun r _=>r=vs (d5 n):=by
 obtain⟨b,hb⟩:∃b,b=decide (n<0):=⟨_,rfl⟩
 refine ai ac false Tryz.func142 rfl ae ?_
 simp only[Tryz.f142,tt,seval]
 refine ab (fun hz=>?_) (fun hz=>?_)
 ·subst hz
  exact⟨_,_,jr (show (⟨#[48]⟩:ByteArray)=d5 0 by unfold d5 Lib.itoa;rw[if_neg aa,Lib.decDigits,dif_pos ah];rfl),ap rfl⟩
 ·rw[<-hb]
  refine dLoop.intro (fun f L p=>∃(k:Nat) (o:List UInt8),f 0=vi (sg b k)/\f 4=vs ⟨o.toArray⟩/\k<=n.natAbs/\Lib.decDigits n.natAbs=(if k=0 then o else Lib.decDigits k++o)/\L=[]/\p=none) (fun f _ _=>(eH (f 0)).natAbs) [] none ⟨ao _,aq _,?_⟩ ?_
  ·simp only[tt,seval]
   refine⟨n.natAbs,[],iU ?_,rfl,Nat.le_refl _,?_⟩
   ·rw[sg,hb];simp only[decide_eq_true_eq];split<;>omega
   ·rw[if_neg aa,List.append_nil]
  ·rintro g L p ⟨k,o,hk,ho,hkn,hd,rfl,rfl⟩
   simp only[tt,seval] at hk ho
   have hol:o.length<=20:=by
    have h2:=qC h0 h1
    have h3:(Lib.decDigits n.natAbs).length<=20:=fa n.natAbs 19 aa
    rw[hd] at h3
    split at h3
    ·exact h3
    ·rw[aC] at h3;omega
   simp only[tt,seval,hk,ho,GZ]
   refine ab (fun hne=>?_) (fun heq=>?_)
   ·have hk0:k≠0:=by
     simp only[Bool.not_eq_true',decide_eq_false_iff_not,yQ] at hne;exact hne
    have hdv:=BJ k
    refine ab (fun hneg=>?_) (fun hpos=>?_)
    ·have hs:sg b (k % 10) = -((k % 10:Nat):Int):=by
      unfold sg at hneg ⊢
      split at hneg
      ·rename_i h;rw[if_pos h]
      ·omega
     have hval:IntKind.u8.wrap (IntKind.i64.wrap (48+IntKind.i64.wrap (0-sg b (k % 10))))=((oQ k).toNat:Int):=by
      rw[hs,ax (n:=0 - -((k % 10:Nat):Int)) aa aa,ax aa aa,IntWalk.u8_in _ aa,hdv];omega
     refine⟨ae,ah,[oQ k],rfl,by rw[hval];rfl,?_⟩
     simp only[tt,seval,ho]
     have hsz:(⟨[oQ k].toArray⟩:ByteArray).size+(⟨o.toArray⟩:ByteArray).size=1+o.length:=by show (List.toArray _).size+(List.toArray _).size=_;simp
     rw[fU (by rw[hsz];omega)]
     simp only[tt,seval,hk,BI]
     rw[ax (n:=sg b (k / 10)) (by rw[sg];split<;>omega) (by rw[sg];split<;>omega)]
     refine⟨[],none,ao _,aq _,⟨k / 10,oQ k::o,rfl,jr (mQ (by rw[data_append];simp)),aa,?_,rfl,rfl⟩,?_⟩
     ·rw[hd,if_neg hk0]
      split
      ·rename_i h;rw[kD h];rfl
      ·rename_i h;rw[l5 h];simp
     ·simp only[eH,sg];split<;>omega
    ·have hs:sg b (k % 10)=((k % 10:Nat):Int):=by
      unfold sg at hpos ⊢
      split at hpos
      ·rename_i h;rw[if_pos h];omega
      ·rename_i h;rw[if_neg h]
     have hval:IntKind.u8.wrap (IntKind.i64.wrap (48+sg b (k % 10)))=((oQ k).toNat:Int):=by
      rw[hs,ax aa aa,IntWalk.u8_in _ aa,hdv]
     refine⟨ae,ah,[oQ k],rfl,by rw[hval];rfl,?_⟩
     simp only[tt,seval,ho]
     have hsz:(⟨[oQ k].toArray⟩:ByteArray).size+(⟨o.toArray⟩:ByteArray).size=1+o.length:=by show (List.toArray _).size+(List.toArray _).size=_;simp
     rw[fU (by rw[hsz];omega)]
     simp only[tt,seval,hk,BI]
     rw[ax (n:=sg b (k / 10)) (by rw[sg];split<;>omega) (by rw[sg];split<;>omega)]
     refine⟨[],none,ao _,aq _,⟨k / 10,oQ k::o,rfl,jr (mQ (by rw[data_append];simp)),aa,?_,rfl,rfl⟩,?_⟩
     ·rw[hd,if_neg hk0]
      split
      ·rename_i h;rw[kD h];rfl
      ·rename_i h;rw[l5 h];simp
     ·simp only[eH,sg];split<;>omega
   ·have hk0:k=0:=by
     simp only[Bool.not_eq_false',decide_eq_true_eq,yQ] at heq;exact heq
    subst hk0
    rw[if_pos rfl] at hd
    refine ab (fun hb1=>?_) (fun hb0=>?_)
    ·have hn:n<0:=by rw[hb] at hb1;exact of_decide_eq_true hb1
     have hsz:(⟨#[45]⟩:ByteArray).size+(⟨o.toArray⟩:ByteArray).size=1+o.length:=by show 1+(List.toArray _).size=_;simp
     rw[fU (by rw[hsz];omega)]
     simp only[tt,seval]
     exact⟨_,_,jr (mQ (by rw[data_append];simp [d5,Lib.itoa,hn,hd])),ap rfl⟩
    ·have hn:¬n<0:=by rw[hb] at hb0;exact of_decide_eq_false hb0
     have e:n.toNat=n.natAbs:=by omega
     exact⟨_,_,jr (mQ (by simp [d5,Lib.itoa,hn,e,hd])),ap rfl⟩
theorem u0 (v:Val) (h0 : -9223372036854775808<=v.num) (h1:v.num<=9223372036854775807) (hs:v.text.size<=1048576):Cl Tryz.prog 275 [.ag (ar v.row)] [] fun r _=>r=vs (qG v):=by
 rw[Val.row]
 refine ai ac false Tryz.func275 rfl ae ?_
 simp only[Tryz.f275,tt,seval]
 refine cZ (qF v) ?_ ?_<;>simp only[tt,seval,Val.row]
 refine ab (fun hk=>?_) (fun hk=>?_)
 ·exact⟨_,_,jr (by rw[qG,if_pos (by simpa only[Bool.not_eq_true'] using hk)]),ap rfl⟩
 ·have hk':¬dE v=false:=by simpa only[Bool.not_eq_false',Bool.not_eq_false] using hk
  refine ab (fun k1=>?_) (fun k1=>?_)
  ·skip
   refine cZ (mf v.num h0 h1) ?_ ?_<;>simp only[tt,seval]
   exact⟨_,_,jr (by rw[qG,if_neg hk',if_pos k1]),ap rfl⟩
  ·try simp only[tt,seval]
   refine ab (fun k2=>?_) (fun k2=>?_)
   ·skip
    refine cZ (nE v.text hs) ?_ ?_<;>simp only[tt,seval]
    exact⟨_,_,jr (by rw[qG,if_neg hk',if_neg k1,if_pos k2]),ap rfl⟩
   ·try simp only[tt,seval]
    refine ab (fun k3=>?_) (fun k3=>?_)
    ·try simp only[tt,seval]
     refine ab (fun k4=>?_) (fun k4=>?_)
     ·exact⟨_,_,jr (by rw[qG,if_neg hk',if_neg k1,if_neg k2,if_pos k3,if_pos k4]),ap rfl⟩
     ·exact⟨_,_,jr (by rw[qG,if_neg hk',if_neg k1,if_neg k2,if_pos k3,if_neg k4]),ap rfl⟩
    ·exact⟨_,_,jr (by rw[qG,if_neg hk',if_neg k1,if_neg k2,if_neg k3]),ap rfl⟩
theorem eJ (a b:List UInt8):aR a++aR b=aR (a++b):=by simp [aR]
end Go.Proofs.YtbodcedhmccenaaGreatDoor
set_option maxRecDepth 8000
namespace Go.Proofs.YtbodcedhmccenaaGreatDoor
open Go Go.Dv
open Go.Vc (D dg dh cX bk)
open Go.RowKit (Below)
open Go.Vc (CellF RowF ValsF okV vis)
theorem Ej {w:World} {ok0:Nat->Prop} {L:Ob} {β:Nat->Option Nat} {b:Nat} (h:s9 ok0 L β b):okR w ok0 L β L β b:=⟨h.1,fun _=>.inl h.2⟩
theorem vn (w:World) (b:Nat) (p v:Value) (lh:Nat×Nat) (hb:w.heap[b]?=some (.cells #[p,v] 163 lh)) (hlh:Lh 2 lh) (hp:p = .pointer none∨p = .pointer (some ⟨b,0,none⟩)) :
 Calls Tryz.prog 255 #[.pointer (some ⟨b,0,none⟩)] w fun e w'=>e = .returned (.tuple #[])/\∃p',(p' = .pointer none∨p' = .pointer (some ⟨b,0,none⟩))/\w'=w.setRow b #[p',v]:=by
 have hc:w.cell? ⟨b,0,none⟩=some p:=by simp [World.cell?,hb]
 have hself:w.setRow b #[p,v]=w:=setRow_self w b _ _ _ hb
 rcases hp with rfl|rfl
 ·have hsh:w.shape? b=some (163,2):=by simp [World.shape?,hb]
  have hfz:w.frozen? ⟨b,0,none⟩=false:=by
   have:=hlh 0 ah
   obtain⟨lo,hi⟩:=lh
   simp only[World.frozen?,hb,Bool.and_eq_false_iff,decide_eq_false_iff_not]
   simp only at this;omega
  refine (Any.Builder_copyCheck_fresh { Tryz.lays155 with } Tryz.Builder_Extra_155.toX72 b w hc hsh hfz).mono ?_
  rintro e w' ⟨rfl,rfl⟩
  exact⟨rfl,_,.inr rfl,by rw[setCell_eq_setRow w b 0 _ _ _ _ hb];rfl⟩
 ·refine (Any.Builder_copyCheck_used { Tryz.lays155 with } Tryz.Builder_Extra_155.toX72 b w hc).mono ?_
  rintro e w' ⟨rfl,rfl⟩
  exact⟨rfl,_,.inr rfl,hself.symm⟩
theorem vo (x:C) (hx:gP x=true) (hf:y4 x=[]) (hx1:x ≠ .self):Cl Tryz.prog 255 [.c (.p 9000 0)] [[.self,x]] fun r os=>r = .tu []/\os=[[.self,x]]:=by
 refine⟨ae,fun w β ok0 vs ha ho hg=>?_⟩
 have hL:lent [.c (.p 9000 0)] [[.self,x]]=iA 0 [[.self,x]]:=rfl
 have hB:back (.tu []) [[.self,x]]=iA 0 [[.self,x]]:=rfl
 generalize hLL:iA 0 [[C.self,x]]=L at hL hB
 rw[hL] at ha ho hg ⊢
 have hlk:Go.Dv.look L 9000=some (.str (expC 9200 [.self,x])):=by rw[<-hLL];rfl
 cases vs with
 |nil=>exact ha.elim
 |cons v0 r=>
  cases r with
  |cons _ _=>exact ha.2.elim
  |nil=>
   obtain⟨b,hb,rfl⟩:=ha.1
   obtain⟨b',cells,ty,lh,hb',hc,hlh,hsf,hrel⟩:=ho.rel 9000 _ hlk
   have:b'=b:=by rw[hb] at hb';injection hb' with e;exact e.symm
   subst this
   obtain⟨rfl,hp⟩:=hsf 0 rfl
   obtain⟨p,v,hcl⟩:∃p v,cells = #[p,v]:=by
    have:=hrel.length
    have h2:cells.toList.length=2:=by rw[<-this];rfl
    match hq:cells.toList,h2 with
    | [p,v],_=>exact⟨p,v,by rw[<-Array.toArray_toList (xs:=cells),hq]⟩
   subst hcl
   have how:ownB L β b':=⟨9000,_,hlk,hb⟩
   refine (vn w b' p v lh hc (by simpa using hlh) (by simpa using hp)).mono ?_
   rintro e w' ⟨rfl,p',hp',rfl⟩
   have hoth:∀y,y≠b'->(w.setRow b' #[p',v]).heap[y]?=w.heap[y]?:=fun y hy=>setRow_other w b' y _ hy
   have hnew:=setRow_heap w b' #[p,v] #[p',v] 163 _ hc
   have hcells:∀(y:Nat) cs2 ty2 lh2,w.heap[y]?=some (.cells cs2 ty2 lh2)->∃cs3 lh3,(w.setRow b' #[p',v]).heap[y]?=some (.cells cs3 ty2 lh3)/\cs3.size=cs2.size:=fun y cs2 ty2 lh2 hy=>by
    by_cases e:y=b'
    ·subst e
     rw[hc] at hy;injection hy with hy;injection hy with e1 e2 e3
     subst e1 e2 e3
     exact⟨_,_,hnew,rfl⟩
    ·exact⟨cs2,lh2,(hoth y e).trans hy,rfl⟩
   have hst:Stab w (w.setRow b' #[p',v]) (s9 ok0 L β) (okR w ok0 L β L β):=⟨fun y _ hy=>⟨hoth y fun e=>hy.1 (e▸how),Ej hy⟩,hcells⟩
   refine⟨_,.tu [],[[.self,x]],β,rfl,⟨rfl,rfl⟩,?_⟩
   refine⟨⟨[],rfl,trivial⟩,?_,fun _ _=>rfl,rfl,?_,by simp [Wd],⟨rfl,rfl,rfl⟩,?_,?_⟩
   ·rw[hB]
    refine⟨fun i o hl=>?_,ho.inj⟩
    by_cases hi:i=9000
    ·subst hi
     rw[hlk] at hl;injection hl with hl;subst hl
     have hr:=RelL.st hst hrel
     refine⟨b',#[p',v],163,lh,hb,hnew,by simpa using hlh,fun k hk=>?_,?_⟩
     ·refine⟨rfl,?_⟩
      match k,hk with
      |0,_=>simpa using hp'
      |1,hk=>
       have:=p5 hk
       simp at this
       exact absurd this hx1
     ·refine⟨?_,hr.2⟩
      rcases hp' with h|h
      ·exact .inl h
      ·exact .inr ⟨b',h⟩
    ·refine (ho.rel i o hl).st hst fun y hy=>hoth y fun e=>?_
     subst e
     exact hi (ho.inj i 9000 o _ y hl hlk hy hb)
   ·rw[hB]
    exact⟨by simp,fun y _ hn=>hoth y fun e=>hn (e▸how),fun y _ h=>h,hcells⟩
   ·have:fps (.tu []) [[.self,x]]=[]:=by show []++(([]++(y4 x++[]))++[])=[];rw[hf];rfl
    rw[this];exact⟨List.nodup_nil,fun y hy=>by cases hy⟩
   ·have h1:fc [C.self,x]=true:=by show (true&&(gP x&&true))=true;rw[hx];rfl
    show (true&&true&&((fc [C.self,x]&&true)&&true)&&true)=true
    rw[h1];rfl
theorem gv (bs:List UInt8) (s:ByteArray) (h:bs.length+s.size<=100000000):Cl Tryz.prog 150 [.c (.p 9000 0),vs s] [[.self,.ow 5 bs.length (aR bs) none]] fun r os=>r = .tu [([.v (.int .i64 s.size)],true),([.v .nilIface],true)]/\os=[[.self,.ow 5 (bs.length+s.size) (aR (bs++s.data.toList)) none]]:=by
 refine ai ac false Tryz.func150 rfl ae ?_
 simp only[Tryz.f150,tt,seval]
 refine cS (vo (.ow 5 bs.length (aR bs) none) rfl rfl (fun e=>by cases e)) ?_ ?_<;>simp only[tt,seval]
 refine⟨ae,by rw[eI,aE,Nat.mul_one],⟨by simp only[maxLen];omega,aa⟩,fun _=>?_⟩
 rw[eJ]
 refine⟨_,_,⟨rfl,rfl⟩,am ?_⟩
 simp only[tt,seval]
end Go.Proofs.YtbodcedhmccenaaGreatDoor
namespace Go.Proofs.YtbodcedhmccenaaGreatDoor
open Go Go.Shelf Go.RowKit Go.Proofs
section
variable {P:Program} {ρ:Ren}
structure But (g:Option Nat) (w w':World):Prop where
 size:w.heap.size<=w'.heap.size
 keep:∀x,x<w.heap.size->g≠some x->w'.heap[x]?=w.heap[x]?
 cells:∀x,g=some x->∀cs t lh,w.heap[x]?=some (.cells cs t lh)->∃lh',w'.heap[x]?=some (.cells cs t lh')
 os:w'.os=w.os
 tape:w'.tape=w.tape
 output:w'.output=w.output
theorem But.drew (g:Option Nat) (w:World):But g w w.drew:=⟨Nat.le_refl _,fun _ _ _=>rfl,fun _ _ _ _ lh h=>⟨lh,h⟩,rfl,rfl,rfl⟩
theorem But.alloc {g:Option Nat} {w w':World} (h:But g w w') (o:Obj):But g w (w'.alloc o) where
 size:=by have:=h.size;simp;omega
 keep:=fun x hx hg=>(Go.heap_alloc_old w' o (Nat.lt_of_lt_of_le hx h.size)).trans (h.keep x hx hg)
 cells:=fun x hg cs t lh hc=>by
  obtain⟨lh',h1⟩:=h.cells x hg cs t lh hc
  exact⟨lh',(Go.heap_alloc_old w' o (Array.getElem?_eq_some_iff.1 h1).1).trans h1⟩
 os:=h.os
 tape:=h.tape
 output:=h.output
theorem But.freeze {w w':World} (g n:Nat) (h:But (some g) w w'):But (some g) w (w'.freeze ⟨g,0,none⟩ n):=by
 unfold World.freeze
 split
 ·exact h
 ·refine⟨by simpa using h.size,fun x hx hg=>?_,fun x hg cs t lh hc=>?_,h.os,h.tape,h.output⟩
  ·have:¬g=x:=fun e=>hg (by rw[e])
   simp only[Array.getElem?_modify,if_neg this];exact h.keep x hx hg
  ·obtain⟨lh',h1⟩:=h.cells x hg cs t lh hc
   injection hg with hg;subst hg
   simp only[Array.getElem?_modify,if_true,h1,Option.map_some]
   exact⟨_,rfl⟩
set_option maxHeartbeats 1000000 in
set_option maxRecDepth 100000 in
theorem vp (L:Lays.n169 P ρ) (X:Builder.Extra P ρ) (b g cap:Nat) (p:Value) (cur:Array Value) (fz:Nat×Nat) (l:List UInt8) (w:World) (h0:l≠[]) (hbk:w.heap[b]?=some (.cells #[p,.slice (some ⟨g,0,none⟩) l.length cap] (ρ.t 72) fz))
 (hg:∃fg,w.heap[g]?=some (.cells cur (ρ.t 5) fg)) (hnc:l.length<=cap) (hcm:cap<=maxLen) (hcs:cap<=cur.size) (htake:∀(j:Nat) (x:UInt8),l[j]?=some x->cur.toList[j]?=some (Value.int .u8 (x.toNat:Int))) :
 Calls P (ρ.f 169) #[.pointer (some ⟨b,0,none⟩)] w fun e w'=>e = .returned (.string ⟨l.toArray⟩)/\But (some g) w w':=by
 obtain⟨fg,hg⟩:=hg
 have hl0:l.length≠0:=by simpa using h0
 have c1:w.drew.cell? ⟨b,1,none⟩=some (.slice (some ⟨g,0,none⟩) l.length cap):=by
  have:w.drew.heap[b]?=some (.cells #[p,.slice (some ⟨g,0,none⟩) l.length cap] (ρ.t 72) fz):=hbk
  rw[Lib.cell_of_heap this];rfl
 have hSD:(Builtin.unsafeSliceData_ #[(ρ.t 37)] (ρ.t 127) #[.slice (some ⟨g,0,none⟩) l.length cap]).run P w.drew = .ok (.pointer (some ⟨g,0,none⟩)) w.drew:=
  Lib.run_unsafeSliceData_row _ _ _ _ _ _ aa
 have hUS:(Builtin.unsafeString_ #[(ρ.t 127),(ρ.t 3)] (ρ.t 9) #[.pointer (some ⟨g,0,none⟩),.int .i64 l.length]).run P w.drew = .ok (.string ⟨l.toArray⟩) (w.drew.freeze ⟨g,0,none⟩ l.length):=by
  refine Lib.run_unsafeString_row w.drew (ρ.t 127) (ρ.t 3) (ρ.t 9) (ρ.t 5) L.t127 X.cellsByte g cur.size (by have hg':w.drew.heap[g]?=some (.cells cur (ρ.t 5) fg):=hg;simp [World.shape?,hg']) l h0 aa (by unfold maxLen at hcm;omega) ?_
  intro j x hx
  have hg':w.drew.heap[g]?=some (.cells cur (ρ.t 5) fg):=hg
  have e:(⟨g,0,none⟩:Addr).add j=⟨g,j,none⟩:=by unfold Addr.add;split<;>simp_all
  rw[e,Lib.cell_of_heap hg']
  have:=htake j x hx
  simpa using this
 have mixed:=L.mixed
 have t72:=L.t72;have a72:=L.a72;have z72:=L.z72;have v72:=L.v72;have u72:=run_underlying L.t72
 have t70:=L.t70;have a70:=L.a70;have z70:=L.z70;have v70:=L.v70;have u70:=run_underlying L.t70
 have t37:=L.t37;have a37:=L.a37;have z37:=L.z37;have v37:=L.v37;have u37:=run_underlying L.t37
 have t127:=L.t127;have a127:=L.a127;have z127:=L.z127;have v127:=L.v127;have u127:=run_underlying L.t127
 have t3:=L.t3;have a3:=L.a3;have z3:=L.z3;have v3:=L.v3;have u3:=run_underlying L.t3
 have t9:=L.t9;have a9:=L.a9;have z9:=L.z9;have v9:=L.v9;have u9:=run_underlying L.t9
 have t5:=X.t5;have a5:=X.a5;have z5:=X.z5;have v5:=X.v5;have u5:=run_underlying X.t5
 go_enter L.f169,Body.n169_ntmps ρ
 go_wp2
 go_region_o
 all_goals (go_wp2;go_ret;exact⟨rfl,(But.drew _ w).freeze g _⟩)
set_option maxHeartbeats 1000000 in
set_option maxRecDepth 100000 in
theorem vq (L:Lays.n169 P ρ) (X:Builder.Extra P ρ) (b:Nat) (p:Value) (fz:Nat×Nat) (w:World) (hbk:w.heap[b]?=some (.cells #[p,.slice none 0 0] (ρ.t 72) fz)) :
 Calls P (ρ.f 169) #[.pointer (some ⟨b,0,none⟩)] w fun e w'=>e = .returned (.string ⟨#[]⟩)/\But none w w':=by
 have hUS:=Any.unsafeString_none L X
 have c1:w.drew.cell? ⟨b,1,none⟩=some (.slice none 0 0):=by
  have:w.drew.heap[b]?=some (.cells #[p,.slice none 0 0] (ρ.t 72) fz):=hbk
  rw[Lib.cell_of_heap this];rfl
 have hSD:(Builtin.unsafeSliceData_ #[(ρ.t 37)] (ρ.t 127) #[.slice none 0 0]).run P w.drew = .ok (.pointer none) w.drew:=rfl
 have mixed:=L.mixed
 have t72:=L.t72;have a72:=L.a72;have z72:=L.z72;have v72:=L.v72;have u72:=run_underlying L.t72
 have t70:=L.t70;have a70:=L.a70;have z70:=L.z70;have v70:=L.v70;have u70:=run_underlying L.t70
 have t37:=L.t37;have a37:=L.a37;have z37:=L.z37;have v37:=L.v37;have u37:=run_underlying L.t37
 have t127:=L.t127;have a127:=L.a127;have z127:=L.z127;have v127:=L.v127;have u127:=run_underlying L.t127
 have t3:=L.t3;have a3:=L.a3;have z3:=L.z3;have v3:=L.v3;have u3:=run_underlying L.t3
 have t9:=L.t9;have a9:=L.a9;have z9:=L.z9;have v9:=L.v9;have u9:=run_underlying L.t9
 have t5:=X.t5;have a5:=X.a5;have z5:=X.z5;have v5:=X.v5;have u5:=run_underlying X.t5
 go_enter L.f169,Body.n169_ntmps ρ
 go_wp2
 go_region_o
 all_goals (go_wp2;go_ret;exact⟨rfl,But.drew _ w⟩)
set_option maxHeartbeats 1000000 in
set_option maxRecDepth 100000 in
theorem sd (L:Lays.n169 P ρ) (X:Builder.Extra P ρ) (b g:Nat) (p:Value) (cur:Array Value) (fz fg:Nat×Nat) (w:World) (hbk:w.heap[b]?=some (.cells #[p,.slice (some ⟨g,0,none⟩) 0 0] (ρ.t 72) fz)) (hg:w.heap[g]?=some (.cells cur (ρ.t 5) fg)) :
 Calls P (ρ.f 169) #[.pointer (some ⟨b,0,none⟩)] w fun e w'=>e = .returned (.string ⟨#[]⟩)/\But none w w':=by
 have hUS:=Any.unsafeString_none L X
 have hlt:b<w.heap.size:=(Array.getElem?_eq_some_iff.1 hbk).1
 have c1:w.drew.cell? ⟨b,1,none⟩=some (.slice (some ⟨g,0,none⟩) 0 0):=by
  have:w.drew.heap[b]?=some (.cells #[p,.slice (some ⟨g,0,none⟩) 0 0] (ρ.t 72) fz):=hbk
  rw[Lib.cell_of_heap this];rfl
 have hSD:(Builtin.unsafeSliceData_ #[(ρ.t 37)] (ρ.t 127) #[.slice (some ⟨g,0,none⟩) 0 0]).run P w.drew = .ok (.pointer (some ⟨w.drew.heap.size,0,none⟩)) (w.drew.alloc (.view ⟨g,0,none⟩ (ρ.t 5))):=
  Lib.run_unsafeSliceData_zero w.drew _ _ (ρ.t 5) L.t127 ⟨g,0,none⟩ 0 ((ρ.t 5),cur.size) (by have hg':w.drew.heap[g]?=some (.cells cur (ρ.t 5) fg):=hg;simp [World.shape?,hg'])
 have c2:(w.drew.alloc (.view ⟨g,0,none⟩ (ρ.t 5))).cell? ⟨b,1,none⟩=some (.slice (some ⟨g,0,none⟩) 0 0):=by
  have:(w.drew.alloc (.view ⟨g,0,none⟩ (ρ.t 5))).heap[b]?=_:=(Lib.alloc_old w.drew _ b hlt).trans hbk
  rw[Lib.cell_of_heap this];rfl
 have c3:(w.alloc (.view ⟨g,0,none⟩ (ρ.t 5))).drew.cell? ⟨b,1,none⟩=some (.slice (some ⟨g,0,none⟩) 0 0):=c2
 have c0:w.cell? ⟨b,1,none⟩=some (.slice (some ⟨g,0,none⟩) 0 0):=c1
 have mixed:=L.mixed
 have t72:=L.t72;have a72:=L.a72;have z72:=L.z72;have v72:=L.v72;have u72:=run_underlying L.t72
 have t70:=L.t70;have a70:=L.a70;have z70:=L.z70;have v70:=L.v70;have u70:=run_underlying L.t70
 have t37:=L.t37;have a37:=L.a37;have z37:=L.z37;have v37:=L.v37;have u37:=run_underlying L.t37
 have t127:=L.t127;have a127:=L.a127;have z127:=L.z127;have v127:=L.v127;have u127:=run_underlying L.t127
 have t3:=L.t3;have a3:=L.a3;have z3:=L.z3;have v3:=L.v3;have u3:=run_underlying L.t3
 have t9:=L.t9;have a9:=L.a9;have z9:=L.z9;have v9:=L.v9;have u9:=run_underlying L.t9
 have t5:=X.t5;have a5:=X.a5;have z5:=X.z5;have v5:=X.v5;have u5:=run_underlying X.t5
 go_enter L.f169,Body.n169_ntmps ρ
 go_wp2
 go_region_o
 all_goals (go_wp2;go_ret;exact⟨rfl,(But.drew _ w).alloc _⟩)
set_option maxHeartbeats 1000000 in
set_option maxRecDepth 100000 in
theorem vr (L:Lays.n169 P ρ) (X:Builder.Extra P ρ) (b g cap:Nat) (p:Value) (fz:Nat×Nat) (w:World) (hc0:cap≠0) (hbk:w.heap[b]?=some (.cells #[p,.slice (some ⟨g,0,none⟩) 0 cap] (ρ.t 72) fz)) :
 Calls P (ρ.f 169) #[.pointer (some ⟨b,0,none⟩)] w fun e w'=>e = .returned (.string ⟨#[]⟩)/\But none w w':=by
 have hUS:=Any.unsafeString_none L X
 have c1:w.drew.cell? ⟨b,1,none⟩=some (.slice (some ⟨g,0,none⟩) 0 cap):=by
  have:w.drew.heap[b]?=some (.cells #[p,.slice (some ⟨g,0,none⟩) 0 cap] (ρ.t 72) fz):=hbk
  rw[Lib.cell_of_heap this];rfl
 have hSD:(Builtin.unsafeSliceData_ #[(ρ.t 37)] (ρ.t 127) #[.slice (some ⟨g,0,none⟩) 0 cap]).run P w.drew = .ok (.pointer (some ⟨g,0,none⟩)) w.drew:=
  Lib.run_unsafeSliceData_row _ _ _ _ _ _ hc0
 clear hc0
 have mixed:=L.mixed
 have t72:=L.t72;have a72:=L.a72;have z72:=L.z72;have v72:=L.v72;have u72:=run_underlying L.t72
 have t70:=L.t70;have a70:=L.a70;have z70:=L.z70;have v70:=L.v70;have u70:=run_underlying L.t70
 have t37:=L.t37;have a37:=L.a37;have z37:=L.z37;have v37:=L.v37;have u37:=run_underlying L.t37
 have t127:=L.t127;have a127:=L.a127;have z127:=L.z127;have v127:=L.v127;have u127:=run_underlying L.t127
 have t3:=L.t3;have a3:=L.a3;have z3:=L.z3;have v3:=L.v3;have u3:=run_underlying L.t3
 have t9:=L.t9;have a9:=L.a9;have z9:=L.z9;have v9:=L.v9;have u9:=run_underlying L.t9
 have t5:=X.t5;have a5:=X.a5;have z5:=X.z5;have v5:=X.v5;have u5:=run_underlying X.t5
 go_enter L.f169,Body.n169_ntmps ρ
 go_wp2
 go_region_o
 all_goals (go_wp2;go_ret;exact⟨rfl,But.drew _ w⟩)
end
end Go.Proofs.YtbodcedhmccenaaGreatDoor
set_option maxRecDepth 8000
namespace Go.Proofs.YtbodcedhmccenaaGreatDoor
open Go Go.Dv
open Go.Vc (D dg dh cX bk)
open Go.Vc (CellF RowF ValsF okV vis)
theorem sS {w:World}:∀ {l:List UInt8} {vs:List Value} {G:List Nat},ValsF w (aR l) vs G->∀(j:Nat) (x:UInt8),l[j]?=some x->vs[j]?=some (Value.int .u8 (x.toNat:Int))
 | [],vs,G,_,j,b,hj=>by simp at hj
 |c::r,[],G,hv,_,_,_=>hv.elim
 |c::r,v::t,G,hv,0,b,hj=>by
  obtain⟨F1,F2,h1,h2,_⟩:=hv
  simp at hj;subst hj;obtain⟨rfl,_⟩:=h1;rfl
 |c::r,v::t,G,hv,j+1,b,hj=>by
  obtain⟨F1,F2,h1,h2,_⟩:=hv
  simpa using sS h2 j b (by simpa using hj)
theorem BK (bs:List UInt8) (hbl:bs.length<=100000000):Cl Tryz.prog 153 [.c (.p 9000 0)] [[.self,.ow 5 bs.length (aR bs) none]] fun r os=>r=vs ⟨bs.toArray⟩/\os=[[.dead,.dead]]:=by
 refine⟨ae,fun w β ok0 vals ha ho hg=>?_⟩
 have hL:lent [.c (.p 9000 0)] [[.self,.ow 5 bs.length (aR bs) none]]=[(9000,.str [.self,.s 19200 bs.length]),(19200,.arr 5 bs.length (aR bs) none)]:=rfl
 have hB:back (vs ⟨bs.toArray⟩) [[.dead,.dead]]=[(9000,.str [.dead,.dead])]:=rfl
 rw[hL] at ha ho hg ⊢
 cases vals with
 |nil=>exact ha.elim
 |cons v0 r=>
  cases r with
  |cons _ _=>exact ha.2.elim
  |nil=>
   obtain⟨b,hb,rfl⟩:=ha.1
   obtain⟨b',cells,ty,lh,hb',hc,hlh,hsf,hrel⟩:=ho.rel 9000 _ rfl
   have:b'=b:=by rw[hb] at hb';injection hb' with e;exact e.symm
   subst this
   obtain⟨rfl,hp⟩:=hsf 0 rfl
   obtain⟨p,v,hcl⟩:∃p v,cells = #[p,v]:=by
    have:=hrel.length
    have h2:cells.toList.length=2:=by rw[<-this];rfl
    match hq:cells.toList,h2 with
    | [p,v],_=>exact⟨p,v,by rw[<-Array.toArray_toList (xs:=cells),hq]⟩
   subst hcl
   have hv:OwnS Tryz.prog w (β 19200) bs.length v:=hrel.2.1
   have how:ownB [(9000,.str [.self,.s 19200 bs.length]),(19200,.arr 5 bs.length (aR bs) none)] β b':=⟨9000,_,rfl,hb⟩
   have fin:∀(g:Option Nat) (w':World),(∀y,g=some y->β 19200=some y)->But g w w'->∃v r objs' β',Ending.returned (.string ⟨bs.toArray⟩) = .returned v/\(r=vs ⟨bs.toArray⟩/\objs'=[[.dead,.dead]]) /\
    Post Tryz.prog w β ok0 [(9000,.str [.self,.s 19200 bs.length]),(19200,.arr 5 bs.length (aR bs) none)] 1 v w' r objs' β':=by
    intro g w' hgo hbut
    have hgb:g≠some b':=fun e=>by
     have:=ho.inj 9000 19200 _ _ b' rfl rfl hb (hgo b' e)
     cases this
    refine⟨_,vs ⟨bs.toArray⟩,[[.dead,.dead]],β,rfl,⟨rfl,rfl⟩,?_⟩
    refine⟨⟨rfl,?_⟩,?_,fun _ _=>rfl,rfl,?_,hbut.size,⟨hbut.os,hbut.tape,hbut.output⟩,?_,rfl⟩
    ·show ByteArray.size ⟨bs.toArray⟩<=maxLen
     show (List.toArray _).size<=maxLen
     simp only[List.size_toArray,maxLen];omega
    ·rw[hB]
     refine⟨fun i o hl=>?_,fun i j o o' x hl hl' _ _=>?_⟩
     ·have hi:i=9000:=by
       simp only[Go.Dv.look] at hl
       split at hl
       ·rename_i e;exact e.symm
       ·cases hl
      subst hi
      simp only[Go.Dv.look,if_true] at hl;injection hl with hl;subst hl
      exact⟨b',#[p,v],163,lh,hb,(hbut.keep b' (bD hc) hgb).trans hc,hlh,SelfOk.none (fun x hx=>by simp at hx;subst hx;exact fun e=>by cases e),⟨trivial,trivial,trivial⟩⟩
     ·have a1:∀ {i:Nat} {o:O},Go.Dv.look [(9000,O.str [.dead,.dead])] i=some o->i=9000:=fun {i o} hl=>by
       simp only[Go.Dv.look] at hl
       split at hl
       ·rename_i e;exact e.symm
       ·cases hl
      rw[a1 hl,a1 hl']
    ·rw[hB]
     refine⟨hbut.size,fun y hy hn=>hbut.keep y hy fun e=>hn ⟨19200,_,rfl,hgo y e⟩,fun y _ ⟨i,o,hl,hy⟩=>?_,fun y cs ty2 lh2 hy=>?_⟩
     ·have hi:i=9000:=by
       simp only[Go.Dv.look] at hl
       split at hl
       ·rename_i e;exact e.symm
       ·cases hl
      subst hi
      exact⟨9000,_,rfl,hy⟩
     ·by_cases e:g=some y
      ·obtain⟨lh',h1⟩:=hbut.cells y e cs ty2 lh2 hy
       exact⟨cs,lh',h1,rfl⟩
      ·exact⟨cs,lh2,(hbut.keep y (bD hy) e).trans hy,rfl⟩
    ·exact⟨List.nodup_nil,fun y hy=>by cases hy⟩
   have empty:∀(w':World),bs.length=0->But none w w'->∃v r objs' β',Ending.returned (.string ⟨#[]⟩) = .returned v/\(r=vs ⟨bs.toArray⟩/\objs'=[[.dead,.dead]]) /\
    Post Tryz.prog w β ok0 [(9000,.str [.self,.s 19200 bs.length]),(19200,.arr 5 bs.length (aR bs) none)] 1 v w' r objs' β':=by
    intro w' h0 hbut
    have:=fin none w' (fun y e=>by cases e) hbut
    have hbs:bs=[]:=List.eq_nil_of_length_eq_zero h0
    rw[hbs] at this ⊢
    exact this
   rcases hbg:β 19200 with _|g
   ·rw[hbg] at hv
    obtain⟨h0,rfl⟩:=hv
    refine (vq Tryz.lays169 Tryz.Builder_Extra_169 b' p lh w hc).mono ?_
    rintro e w' ⟨rfl,hbut⟩
    exact empty w' h0 hbut
   ·rw[hbg] at hv
    obtain⟨cap,cs,ty,lhg,rfl,hnc,hcm,hcg,hsz⟩:=hv
    rcases ho.rel 19200 _ rfl with⟨h1,_⟩|⟨g',vs',hd,junk,G,lh',h1,h2,hlh',h3,h4,h5,h6,h7⟩
    ·rw[hbg] at h1;cases h1
    rw[hbg] at h1;injection h1 with h1;subst h1
    rw[hcg] at h2;injection h2 with h2;injection h2 with e1 e2 e3
    subst e1 e2 e3
    have hcs:cap*1<=cs.size:=hsz 1 ae
    by_cases h0:bs.length=0
    ·by_cases hc0:cap=0
     ·subst hc0
      rw[h0] at hc
      refine (sd Tryz.lays169 Tryz.Builder_Extra_169 b' g p cs lh lhg w hc hcg).mono ?_
      rintro e w' ⟨rfl,hbut⟩
      exact empty w' h0 hbut
     ·rw[h0] at hc
      refine (vr Tryz.lays169 Tryz.Builder_Extra_169 b' g cap p lh w hc0 hc).mono ?_
      rintro e w' ⟨rfl,hbut⟩
      exact empty w' h0 hbut
    ·refine (vp Tryz.lays169 Tryz.Builder_Extra_169 b' g cap p cs lh bs w (fun e=>h0 (by rw[e];rfl)) hc ⟨lhg,hcg⟩ hnc hcm aa (fun j x hx=>?_)).mono ?_
     ·have:=sS h4 j x hx
      rw[h3,List.getElem?_append_left (List.getElem?_eq_some_iff.1 this).1];exact this
     ·rintro e w' ⟨rfl,hbut⟩
      exact fin (some g) w' (fun y e=>by rw[hbg];exact e) hbut
end Go.Proofs.YtbodcedhmccenaaGreatDoor
set_option maxRecDepth 8000
namespace Go.Proofs.YtbodcedhmccenaaGreatDoor
open Go Go.Dv
open Go.Vc (D dg dh cX bk)
open Go.Lib in
theorem mR:∀(l:List UInt8) (acc m:Nat),decFrom acc l=some m->acc<=m
 | [],acc,m,h=>by simp only[decFrom,Option.some.injEq] at h;omega
 |b::r,acc,m,h=>by
  simp only[decFrom] at h
  split at h
  ·have:=mR r _ m h;omega
  ·cases h
open Go.Lib in
theorem sT:∀(l:List UInt8) (acc m:Nat),decFrom acc l=some m->m<18446744073709551616->parseUint10 acc l = .ok m
 | [],acc,m,h,_=>by simp only[decFrom,Option.some.injEq] at h;subst h;rfl
 |b::r,acc,m,h,hm=>by
  simp only[decFrom,digitVal] at h
  split at h
  ·rename_i d hd
   split at hd
   ·rename_i hb
    injection hd with hd
    have:=mR r _ m h
    simp only[parseUint10,if_pos hb]
    rw[if_neg aa,if_neg aa,hd]
    exact sT r _ m h hm
   ·cases hd
  ·cases h
open Go.Lib in
theorem gR:∀(l:List UInt8) (acc:Nat) (b:UInt8),decFrom acc (l++[b])=match decFrom acc l,digitVal b with|some n,some d=>some (n*10+d)|_,_=>none
 | [],acc,b=>by simp only[List.nil_append,decFrom];cases digitVal b<;>rfl
 |c::r,acc,b=>by
  simp only[List.cons_append,decFrom]
  cases digitVal c with
  |none=>rfl
  |some d=>exact gR r _ b
open Go.Lib in
theorem u6 {l:List UInt8} {i:Nat} {b:UInt8} (hb:l[i]?=some b) (hd:digitVal b=none):∀acc,decFrom acc l=none:=by
 induction l generalizing i with
 |nil=>simp at hb
 |cons c r ih=>
  intro acc
  simp only[decFrom]
  cases i with
  |zero=>simp only[List.getElem?_cons_zero,Option.some.injEq] at hb;subst hb;rw[hd]
  |succ i=>
   cases digitVal c with
   |none=>rfl
   |some d=>exact ih (by simpa using hb) _
open Go.Lib in
theorem pz {d:Nat} (h:d<10):digitVal (UInt8.ofNat (48+d))=some d:=by
 have e:(UInt8.ofNat (48+d)).toNat=48+d:=by simp;omega
 unfold digitVal
 rw[e,if_pos aa]
 congr 1;omega
open Go.Lib in
theorem ic (u:Nat):decFrom 0 (decDigits u)=some u:=by
 induction u using Nat.strongRecOn with
 |ind u ih=>
  rw[decDigits]
  split
  ·rename_i h
   have:=gR [] 0 (UInt8.ofNat (48+u))
   rw[pz h] at this
   simpa [decFrom] using this
  ·rename_i h
   rw[gR,ih (u / 10) aa,pz aa]
   simp only[Option.some.injEq];omega
open Go.Lib in
theorem l6 (u:Nat):∃b r,decDigits u=b::r/\48<=b.toNat/\b.toNat<=57:=by
 induction u using Nat.strongRecOn with
 |ind u ih=>
  rw[decDigits]
  split
  ·rename_i h
   exact⟨_,[],rfl,by simp;omega,by simp;omega⟩
  ·rename_i h
   obtain⟨b,r,h1,h2⟩:=ih (u / 10) aa
   rw[h1]
   exact⟨b,_,rfl,h2⟩
open Go.Lib in
def gJ (l:List UInt8):Option Nat:=match decFrom 0 l with
 |some m=>if m<9223372036854775808/\decDigits m=l then some m else none
 |none=>none
open Go.Lib in
theorem d7 {l:List UInt8} {m:Nat}:gJ l=some m↔m<9223372036854775808/\decDigits m=l:=by
 unfold gJ
 constructor
 ·intro h
  split at h
  ·split at h
   ·rename_i hc;injection h with h;subst h;exact hc
   ·cases h
  ·cases h
 ·rintro⟨h1,rfl⟩
  rw[ic]
  simp [h1]
open Go.Lib in
theorem l8 (m:Nat):itoa (m:Int)=decDigits m:=by
 unfold itoa
 rw[if_neg aa];rfl
open Go.Lib in
theorem oR {l:List UInt8} {m:Nat} (h:gJ l=some m):atoiAll l = .ok (m:Int):=by
 obtain⟨h1,rfl⟩:=d7.1 h
 obtain⟨b,r,hb,h2,h3⟩:=l6 m
 have hd:=ic m
 rw[hb] at hd ⊢
 rw[atoiAll_plain b r aa aa]
 unfold parseMag
 rw[if_neg (by simp),sT _ _ _ hd aa]
 simp only[signless]
 rw[if_neg aa]
open Go.Lib in
theorem Ax {l:List UInt8} {v:Int} (h:atoiAll l = .ok v) (h0:0<=v) (hi:itoa v=l):gJ l=some v.toNat:=by
 have hb:=atoiAll_bounds h
 refine d7.2 ⟨aa,?_⟩
 rw[<-hi]
 unfold itoa
 rw[if_neg aa]
end Go.Proofs.YtbodcedhmccenaaGreatDoor
set_option maxRecDepth 8000
namespace Go.Proofs.YtbodcedhmccenaaGreatDoor
open Go Go.Dv
open Go.Vc (D dg dh cX bk)
abbrev irow (n:Int):List D:=[int n]
mutual
inductive Expr where
 |mk (kind:Int) (op:Int) (not:Bool) (val:Val) (qual:ByteArray) (name:ByteArray) (kids:List Expr) (sub:List Query)
inductive Item where
 |mk (star:Bool) (qual:ByteArray) (e:Expr) (as_:ByteArray)
inductive Source where
 |mk (table:ByteArray) (as_:ByteArray) (on:List Expr)
inductive SortKey where
 |mk (e:Expr) (desc:Bool)
inductive Query where
 |mk (distinct:Bool) (items:List Item) (from_:List Source) (where_:List Expr) (order:List SortKey) (limit:Int)
end
mutual
def Expr.row:Expr->List D
 |.mk kind op not val qual name kids sub=>int kind::int op::bool not::int val.kind::int val.num::str val.text::str qual::str name :: .sl kids.length (ig kids) :: .sl sub.length (ju sub)::[]
def Item.row:Item->List D
 |.mk star qual e as_=>bool star::str qual::(e.row++str as_::[])
def Source.row:Source->List D
 |.mk table as_ on=>str table::str as_ :: .sl on.length (ig on)::[]
def SortKey.row:SortKey->List D
 |.mk e desc=>(e.row++bool desc::[])
def Query.row:Query->List D
 |.mk distinct items from_ where_ order limit=>bool distinct :: .sl items.length (la items) :: .sl from_.length (ii from_) :: .sl where_.length (ig where_) :: .sl order.length (gB order)::int limit::[]
def ig:List Expr->List D
 | []=>[]
 |x::r=>x.row++ig r
def la:List Item->List D
 | []=>[]
 |x::r=>x.row++la r
def ju:List Query->List D
 | []=>[]
 |x::r=>x.row++ju r
def gB:List SortKey->List D
 | []=>[]
 |x::r=>x.row++gB r
def ii:List Source->List D
 | []=>[]
 |x::r=>x.row++ii r
end
theorem iW:∀l:List Expr,ig l=l.flatMap Expr.row
 | []=>by rw[ig,List.flatMap_nil]
 |x::r=>by rw[ig,List.flatMap_cons,iW r]
theorem pA:∀l:List Item,la l=l.flatMap Item.row
 | []=>by rw[la,List.flatMap_nil]
 |x::r=>by rw[la,List.flatMap_cons,pA r]
theorem nG:∀l:List Query,ju l=l.flatMap Query.row
 | []=>by rw[ju,List.flatMap_nil]
 |x::r=>by rw[ju,List.flatMap_cons,nG r]
theorem lb:∀l:List SortKey,gB l=l.flatMap SortKey.row
 | []=>by rw[gB,List.flatMap_nil]
 |x::r=>by rw[gB,List.flatMap_cons,lb r]
theorem mE:∀l:List Source,ii l=l.flatMap Source.row
 | []=>by rw[ii,List.flatMap_nil]
 |x::r=>by rw[ii,List.flatMap_cons,mE r]
theorem Expr.row_mk (kind:Int) (op:Int) (not:Bool) (val:Val) (qual:ByteArray) (name:ByteArray) (kids:List Expr) (sub:List Query):(Expr.mk kind op not val qual name kids sub).row=int kind::int op::bool not::int val.kind::int val.num::str val.text::str qual::str name :: .sl kids.length (kids.flatMap Expr.row) :: .sl sub.length (sub.flatMap Query.row)::[]:=by rw[Expr.row,iW,nG]
theorem Item.row_mk (star:Bool) (qual:ByteArray) (e:Expr) (as_:ByteArray):(Item.mk star qual e as_).row=bool star::str qual::(e.row++str as_::[]):=by rw[Item.row]
theorem Source.row_mk (table:ByteArray) (as_:ByteArray) (on:List Expr):(Source.mk table as_ on).row=str table::str as_ :: .sl on.length (on.flatMap Expr.row)::[]:=by rw[Source.row,iW]
theorem SortKey.row_mk (e:Expr) (desc:Bool):(SortKey.mk e desc).row=(e.row++bool desc::[]):=by rw[SortKey.row]
theorem Query.row_mk (distinct:Bool) (items:List Item) (from_:List Source) (where_:List Expr) (order:List SortKey) (limit:Int):(Query.mk distinct items from_ where_ order limit).row=bool distinct :: .sl items.length (items.flatMap Item.row) :: .sl from_.length (from_.flatMap Source.row) :: .sl where_.length (where_.flatMap Expr.row) :: .sl order.length (order.flatMap SortKey.row)::int limit::[]:=by rw[Query.row,iW,pA,lb,mE]
theorem Expr.row_len (x:Expr):x.row.length=10:=by cases x;simp [Expr.row]
theorem Expr.tk (x:Expr) (r:List D):fM 10 (x.row++r)=some x.row:=cU (Expr.row_len x)
theorem Expr.ne (x:Expr) (r:List D):x.row++r≠[]:=fun h=>by have:=congrArg List.length h;simp [Expr.row_len] at this
theorem Source.row_len (x:Source):x.row.length=3:=by cases x;simp [Source.row]
theorem Source.ne (x:Source) (r:List D):x.row++r≠[]:=fun h=>by have:=congrArg List.length h;simp [Source.row_len] at this
theorem Query.row_len (x:Query):x.row.length=6:=by cases x;simp [Query.row]
theorem Query.tk (x:Query) (r:List D):fM 6 (x.row++r)=some x.row:=cU (Query.row_len x)
theorem Query.ne (x:Query) (r:List D):x.row++r≠[]:=fun h=>by have:=congrArg List.length h;simp [Query.row_len] at this
theorem Item.row_len (x:Item):x.row.length=13:=by cases x;simp [Item.row,Expr.row_len]
theorem Item.tk (x:Item) (r:List D):fM 13 (x.row++r)=some x.row:=cU (Item.row_len x)
theorem Item.ne (x:Item) (r:List D):x.row++r≠[]:=fun h=>by have:=congrArg List.length h;simp [Item.row_len] at this
theorem SortKey.row_len (x:SortKey):x.row.length=11:=by cases x;simp [SortKey.row,Expr.row_len]
theorem SortKey.ne (x:SortKey) (r:List D):x.row++r≠[]:=fun h=>by have:=congrArg List.length h;simp [SortKey.row_len] at this
mutual
def szExpr:Expr->Nat
 |.mk kind op not val qual name kids sub=>pw val+(qual.size+(name.size+(fF kids+(ik sub))))
def ij:Item->Nat
 |.mk star qual e as_=>qual.size+(szExpr e+(as_.size))
def cJ:Source->Nat
 |.mk table as_ on=>table.size+(as_.size+(fF on))
def eo:SortKey->Nat
 |.mk e desc=>szExpr e
def szQuery:Query->Nat
 |.mk distinct items from_ where_ order limit=>iX items+(d8 from_+(fF where_+(eK order)))
def fF:List Expr->Nat
 | []=>0
 |x::r=>szExpr x+1+fF r
def iX:List Item->Nat
 | []=>0
 |x::r=>ij x+1+iX r
def ik:List Query->Nat
 | []=>0
 |x::r=>szQuery x+1+ik r
def eK:List SortKey->Nat
 | []=>0
 |x::r=>eo x+1+eK r
def d8:List Source->Nat
 | []=>0
 |x::r=>cJ x+1+d8 r
end
theorem aT:∀l:List Expr,fF l=l.length+(l.map szExpr).sum
 | []=>by rw[fF];rfl
 |x::r=>by rw[fF,aT r,List.length_cons,List.map_cons,List.sum_cons];omega
theorem dB:∀l:List Item,iX l=l.length+(l.map ij).sum
 | []=>by rw[iX];rfl
 |x::r=>by rw[iX,dB r,List.length_cons,List.map_cons,List.sum_cons];omega
theorem bT:∀l:List Query,ik l=l.length+(l.map szQuery).sum
 | []=>by rw[ik];rfl
 |x::r=>by rw[ik,bT r,List.length_cons,List.map_cons,List.sum_cons];omega
theorem cB:∀l:List SortKey,eK l=l.length+(l.map eo).sum
 | []=>by rw[eK];rfl
 |x::r=>by rw[eK,cB r,List.length_cons,List.map_cons,List.sum_cons];omega
theorem cM:∀l:List Source,d8 l=l.length+(l.map cJ).sum
 | []=>by rw[d8];rfl
 |x::r=>by rw[d8,cM r,List.length_cons,List.map_cons,List.sum_cons];omega
theorem cL (kind:Int) (op:Int) (not:Bool) (val:Val) (qual:ByteArray) (name:ByteArray) (kids:List Expr) (sub:List Query):szExpr (.mk kind op not val qual name kids sub)=pw val+(qual.size+(name.size+(fF kids+(ik sub)))):=by rw[szExpr]
theorem jv (star:Bool) (qual:ByteArray) (e:Expr) (as_:ByteArray):ij (.mk star qual e as_)=qual.size+(szExpr e+(as_.size)):=by rw[ij]
theorem dt (table:ByteArray) (as_:ByteArray) (on:List Expr):cJ (.mk table as_ on)=table.size+(as_.size+(fF on)):=by rw[cJ]
theorem gS (e:Expr) (desc:Bool):eo (.mk e desc)=szExpr e:=by rw[eo]
theorem dC (distinct:Bool) (items:List Item) (from_:List Source) (where_:List Expr) (order:List SortKey) (limit:Int):szQuery (.mk distinct items from_ where_ order limit)=iX items+(d8 from_+(fF where_+(eK order))):=by rw[szQuery]
structure Tok where
 kind:Int
 text:ByteArray
 at_:Int
def Tok.row (t:Tok):List D:=[int t.kind,str t.text,int t.at_]
theorem Tok.row_len (t:Tok):t.row.length=3:=rfl
theorem Tok.tk (t:Tok) (r:List D):fM 3 (t.row++r)=some t.row:=cU rfl
theorem Tok.ne (t:Tok) (r:List D):t.row++r≠[]:=fun h=>by cases h
def signs:List ByteArray:=[⟨#[40]⟩,⟨#[41]⟩,⟨#[44]⟩,⟨#[46]⟩,⟨#[42]⟩,⟨#[43]⟩,⟨#[45]⟩,⟨#[47]⟩,⟨#[37]⟩,⟨#[61]⟩,⟨#[60,62]⟩,⟨#[60]⟩,⟨#[60,61]⟩,⟨#[62]⟩,⟨#[62,61]⟩,⟨#[124,124]⟩]
def cW (s:ByteArray):Bool:=signs.any fun x=>decide (s=x)
theorem vt (s:ByteArray):Cl Tryz.prog 250 [vs s] [] fun r _=>r=vb (cW s):=by
 refine ai ac false Tryz.func250 rfl ae ?_
 simp only[Tryz.f250,tt,seval]
 all_goals repeat' first|(refine ab (fun h=>?_) (fun h=>?_)<;>try simp only[tt,seval])|(intro _;try simp only[tt,seval])
 all_goals first|contradiction|exact⟨_,_,aU (by simp [cW,signs, *]),ap rfl⟩
theorem yR:Cl Tryz.prog 298 [] [] fun r _=>r = .c (.sl 16 (signs.flatMap srow) none):=by
 refine ai ac false Tryz.func298 rfl ae ?_
 simp only[tt,seval,Tryz.f298]
 refine⟨_,[],rfl,am ?_⟩
 simp only[tt,seval,signs,srow]
theorem Ay (s:ByteArray):decide (0<=mP s signs)=cW s:=by
 unfold mP cW
 by_cases h:signs.findIdx (fun w=>decide (w=s))<signs.length
 ·rw[if_pos h]
  have:=List.findIdx_getElem (w:=h)
  have hm:=aO h
  refine (az aa).trans (Eq.symm ?_)
  rw[List.any_eq_true]
  exact⟨_,hm,by simpa [eq_comm] using this⟩
 ·rw[if_neg h]
  refine (au aa).trans (Eq.symm ?_)
  rw[List.any_eq_false]
  intro x hx
  have:=List.findIdx_lt_length (xs:=signs) (p:=fun w=>decide (w=s))
  simp only[h,false_iff,not_exists,not_and] at this
  simpa [eq_comm] using this x hx
theorem xH (s:ByteArray):Cl Tryz.prog 302 [.c (.sl 16 (signs.flatMap srow) none),vs s] [] fun r _=>r=vb (cW s):=by
 refine ai ac false Tryz.func302 rfl ae ?_
 simp only[Tryz.f302,tt,seval]
 refine cZ (yP signs s) ?_ ?_<;>simp only[tt,seval,show signs.length=16 from rfl]
 exact⟨_,_,aU (by rw[<-Ay]),ap rfl⟩
theorem Az (s:ByteArray):Cl Tryz.prog 254 [vs s] [] fun r _=>r=vb (cW s):=by
 refine ai ac false Tryz.func254 rfl ae ?_
 simp only[Tryz.f254,tt,seval]
 refine cZ (yR) ?_ ?_<;>simp only[tt,seval]
 refine cZ (xH s) ?_ ?_<;>simp only[tt,seval]
 exact⟨_,_,rfl,ap rfl⟩
def H2:List ByteArray:=⟨#[]⟩::[⟨#[79,82]⟩,⟨#[65,78,68]⟩,⟨#[61]⟩,⟨#[60,62]⟩,⟨#[60]⟩,⟨#[60,61]⟩,⟨#[62]⟩,⟨#[62,61]⟩,⟨#[124,124]⟩,⟨#[43]⟩,⟨#[45]⟩,⟨#[42]⟩,⟨#[47]⟩,⟨#[37]⟩,⟨#[78,79,84]⟩,⟨#[45]⟩]
def iJ (k:Int):ByteArray:=if 1<=k/\k<=16 then H2.getD k.toNat ⟨#[]⟩ else ⟨#[]⟩
def kw (k:Nat):ByteArray:=kV.getD k ⟨#[]⟩
end Go.Proofs.YtbodcedhmccenaaGreatDoor
set_option maxRecDepth 8000
namespace Go.Proofs.YtbodcedhmccenaaGreatDoor
open Go Go.Dv
open Go.Vc (D dg dh cX bk)
open Go.RowKit (Below)
theorem sU (k:Nat) (h1:1<=k) (h2:k<=28):Cl Tryz.prog 228 [vi k] [] fun r _=>r=vs (kw k):=by
 refine ai ac false Tryz.func228 rfl ae ?_
 simp only[Tryz.f228,tt,seval]
 refine cZ (dA k 1 28) ?_ ?_<;>simp only[tt,seval]
 simp only[tt,seval,az (show (1:Int)<=k/\(k:Int)<=28 by omega)]
 refine cZ (oO) ?_ ?_<;>simp only[tt,seval]
 have hlt:k<kV.length:=by show _<29;omega
 refine⟨aa,aa,_,aH fE (aD hlt),jY _ _,?_⟩
 simp only[tt,seval,srow]
 exact⟨_,_,jr (by rw[kw,List.getD_eq_getElem?_getD,aD hlt];rfl),ap rfl⟩
theorem Em:([.lit (.string ⟨#[]⟩),.lit (.string ⟨#[79,82]⟩),.lit (.string ⟨#[65,78,68]⟩),.lit (.string ⟨#[61]⟩),.lit (.string ⟨#[60,62]⟩),.lit (.string ⟨#[60]⟩),.lit (.string ⟨#[60,61]⟩),.lit (.string ⟨#[62]⟩),.lit (.string ⟨#[62,61]⟩),.lit (.string ⟨#[124,124]⟩),.lit (.string ⟨#[43]⟩),.lit (.string ⟨#[45]⟩),.lit (.string ⟨#[42]⟩),.lit (.string ⟨#[47]⟩),.lit (.string ⟨#[37]⟩),.lit (.string ⟨#[78,79,84]⟩),.lit (.string ⟨#[45]⟩)]:List D)=H2.flatMap srow:=rfl
theorem BL:([.lit (.string ⟨#[79,82]⟩),.lit (.string ⟨#[65,78,68]⟩),.lit (.string ⟨#[61]⟩),.lit (.string ⟨#[60,62]⟩),.lit (.string ⟨#[60]⟩),.lit (.string ⟨#[60,61]⟩),.lit (.string ⟨#[62]⟩),.lit (.string ⟨#[62,61]⟩),.lit (.string ⟨#[124,124]⟩),.lit (.string ⟨#[43]⟩),.lit (.string ⟨#[45]⟩),.lit (.string ⟨#[42]⟩),.lit (.string ⟨#[47]⟩),.lit (.string ⟨#[37]⟩),.lit (.string ⟨#[78,79,84]⟩),.lit (.string ⟨#[45]⟩)]:List D)=H2.tail.flatMap srow:=rfl
theorem nH (k:Int):Cl Tryz.prog 263 [vi k] [] fun r _=>r=vs (iJ k):=by
 refine ai ac false Tryz.func263 rfl ae ?_
 simp only[Tryz.f263,tt,seval]
 refine cZ (dA k 1 16) ?_ ?_<;>simp only[tt,seval]
 refine ab (fun hc=>?_) (fun hc=>?_)
 ·exact⟨_,_,jr (by rw[iJ,if_neg (by simpa only[Bool.not_eq_true',decide_eq_false_iff_not] using hc)]),ap rfl⟩
 ·have hc:1<=k/\k<=16:=by simpa only[Bool.not_eq_false',decide_eq_true_eq] using hc
  have hlt:k.toNat<H2.length:=by show _<17;omega
  refine⟨aa,aa,?_⟩
  rw[Em,aH fE (aD hlt)]
  simp only[tt,seval,srow]
  exact⟨_,_,jr (by rw[iJ,if_pos hc,List.getD_eq_getElem?_getD,aD hlt];rfl),ap rfl⟩
theorem ga (k:Int):Cl Tryz.prog 276 [vi k] [] fun r _=>r=vs (iJ k):=by
 refine ai ac false Tryz.func276 rfl ae ?_
 simp only[Tryz.f276,tt,seval]
 by_cases h1:k<1
 ·simp only[tt,seval,az h1]
  exact⟨_,_,jr (by rw[iJ,if_neg aa]),ap rfl⟩
 ·simp only[tt,seval,au h1]
  refine ab (fun h2=>?_) (fun h2=>?_)
  ·exact⟨_,_,jr (by rw[iJ,if_neg aa]),ap rfl⟩
  ·have hc:1<=k/\k<=16:=by omega
   have hlt:(k-1).toNat<H2.tail.length:=by show _<16;omega
   rw[ax (n:=k-1) aa aa]
   refine⟨aa,aa,?_⟩
   rw[BL,aH fE (aD hlt)]
   simp only[tt,seval,srow]
   have hlt':k.toNat<H2.length:=by show _<17;omega
   refine⟨_,_,jr ?_,ap rfl⟩
   rw[iJ,if_pos hc,List.getD_eq_getElem?_getD,aD hlt']
   simp only[List.getElem_tail,Option.getD_some,show (k-1).toNat+1=k.toNat by omega]
theorem yS:Tryz.prog.underlying 166=some (.interface (Tryz.prog.methodsAt 166)):=by kernel_rfl
theorem Eo {n:Nat} {d:Option Nat} {K:K0} {f:Rg} {L:Ob} {p:Po} {x:Operand}:cm Tryz.prog n d (do eqGuard .neq 166 x (.const .nilIface) .nilIface .nilIface;binOp .neq 166 .nilIface .nilIface) K f L p=K (put n f d (.c (.v (.bool false)))) L p:=
 bh (fun w=>by rw[Sem.run_bind];simp [eqGuard,run_neq_nil_nil w 166 yS]) trivial
theorem H3 {n:Nat} {d:Option Nat} {K:K0} {f:Rg} {L:Ob} {p:Po} {x y:Operand} {u:TypeId} {v:Value}:cm Tryz.prog n d (do eqGuard .neq 166 x y (.iface u v) .nilIface;binOp .neq 166 (.iface u v) .nilIface) K f L p=K (put n f d (.c (.v (.bool true)))) L p:=
 bh (fun w=>by rw[Sem.run_bind];simp [eqGuard,run_neq_held_nil w 166 u v yS]) trivial
theorem Ep {w:World} {own:Nat->Prop} (h:GlW w own):(∃v,w.cell? ⟨1,0,none⟩=some v/\(v = .nilIface∨∃t p,v = .iface t p))/\(∃v,w.cell? ⟨2,0,none⟩=some v/\(v = .nilIface∨∃t p,v = .iface t p)):=by
 constructor
 ·obtain⟨_,cs,ty,lh,h2,v,h3,h4⟩:=h _ (List.mem_cons_of_mem _ (List.mem_cons_of_mem _ (List.mem_cons_self)))
  exact⟨v,by simp only[World.cell?,h2];exact h3,h4⟩
 ·obtain⟨_,cs,ty,lh,h2,v,h3,h4⟩:=h _ (List.mem_cons_of_mem _ (List.mem_cons_of_mem _ (List.mem_cons_of_mem _ (List.mem_cons_self))))
  exact⟨v,by simp only[World.cell?,h2];exact h3,h4⟩
def IB (s:ByteArray) (r:S):Prop:=∃n e,r = .tu [([.v (.int .i64 n)],true),([.v e],true)]/\((e = .nilIface/\Lib.atoiAll s.data.toList = .ok n)∨((∃t p,e = .iface t p)/\∀v,Lib.atoiAll s.data.toList ≠ .ok v))
theorem H4 (s:ByteArray) (hs:s.size<=1048576):Cl Tryz.prog 301 [vs s] [] fun r _=>IB s r:=
 Cl.ofNew ae [.string s] fun w hg=>by
  obtain⟨⟨ev,h4,h4'⟩,⟨ev',h5,h5'⟩⟩:=Ep hg
  rcases ha:Lib.atoiAll s.data.toList with v|_|_
  ·skip
   refine (Any.strconv_Atoi_ok Tryz.laysC172 s aa v ha w).mono ?_
   rintro e w' ⟨rfl,hw⟩
   refine⟨_,.tu [([.v (.int .i64 v)],true),([.v .nilIface],true)],rfl,⟨v,_,rfl,.inl ⟨rfl,ha⟩⟩,rfl,fun β=>⟨_,rfl,⟨⟨rfl,trivial⟩,trivial⟩,⟨⟨rfl,trivial⟩,trivial⟩,trivial⟩,?_⟩
   rcases hw with rfl|⟨t,rfl⟩
   ·exact Below.refl _ _
   ·exact Lib.bytesWorld_below _ _ _
  ·refine (Any.strconv_Atoi_syntax Tryz.laysC172 s aa ha ev w h4 h4').mono ?_
   rintro e w' ⟨N,rfl,_,_,hb⟩
   exact⟨_,.tu [([.v (.int .i64 _)],true),([.v (.iface _ _)],true)],rfl,⟨_,_,rfl,.inr ⟨⟨_,_,rfl⟩,fun v h=>by rw[ha] at h;cases h⟩⟩,rfl,fun β=>⟨_,rfl,⟨⟨rfl,trivial⟩,trivial⟩,⟨⟨rfl,trivial⟩,trivial⟩,trivial⟩,hb⟩
  ·refine (Any.strconv_Atoi_range Tryz.laysC172 s aa ha ev' w h5 h5').mono ?_
   rintro e w' ⟨N,rfl,_,_,hb⟩
   exact⟨_,.tu [([.v (.int .i64 _)],true),([.v (.iface _ _)],true)],rfl,⟨_,_,rfl,.inr ⟨⟨_,_,rfl⟩,fun v h=>by rw[ha] at h;cases h⟩⟩,rfl,fun β=>⟨_,rfl,⟨⟨rfl,trivial⟩,trivial⟩,⟨⟨rfl,trivial⟩,trivial⟩,trivial⟩,hb⟩
def iY (s:ByteArray):Bool:=(gJ s.data.toList).isSome
def fG (s:ByteArray):Int:=((gJ s.data.toList).getD 0:Nat)
def mA (s:ByteArray):S:=.tu [([.v (.int .i64 (fG s))],true),([.v (.bool (iY s))],true)]
theorem sV (s:ByteArray) (hs:s.size<=1048576):Cl Tryz.prog 253 [vs s] [] fun r _=>r=mA s:=by
 refine ai ac false Tryz.func253 rfl ae ?_
 simp only[Tryz.f253,tt,seval]
 refine fV (H4 s hs) ?_ ?_ ?_
 ·decide
 ·simp only[tt,seval]
 rintro r ⟨n,e,rfl,hh⟩
 simp only[tt,seval]
 rcases hh with⟨rfl,ha⟩|⟨⟨tt',pp,rfl⟩,hne⟩
 ·rw[Eo]
  simp only[tt,seval]
  have hb:=Lib.atoiAll_bounds ha
  by_cases hn:n<0
  ·simp only[tt,seval,az hn]
   have hno:gJ s.data.toList=none:=by
    cases hc:gJ s.data.toList with
    |none=>rfl
    |some m=>have:=oR hc;rw[ha] at this;injection this;omega
   exact⟨_,_,by rw[mA,fG,iY,hno];rfl,ap rfl⟩
  ·simp only[tt,seval,au hn]
   refine cZ (mf n aa aa) ?_ ?_<;>simp only[tt,seval]
   refine ab (fun he=>?_) (fun he=>?_)
   ·have he':¬d5 n=s:=by simpa only[Bool.not_eq_true',decide_eq_false_iff_not] using he
    have hno:gJ s.data.toList=none:=by
     cases hc:gJ s.data.toList with
     |none=>rfl
     |some m=>
      have h1:=oR hc
      obtain⟨_,h2⟩:=d7.1 hc
      rw[ha] at h1
      injection h1 with h1
      refine absurd (mQ ?_) he'
      rw[d5,h1,l8,h2]
    exact⟨_,_,by rw[mA,fG,iY,hno];rfl,ap rfl⟩
   ·have he':d5 n=s:=by simpa only[Bool.not_eq_false',decide_eq_true_eq] using he
    have hc:=Ax ha aa (by rw[<-he'];rfl)
    exact⟨_,_,by rw[mA,fG,iY,hc];simp only[Option.getD_some,Option.isSome_some,Int.toNat_of_nonneg (show 0<=n by omega)],ap rfl⟩
 ·rw[H3]
  simp only[tt,seval]
  have hno:gJ s.data.toList=none:=by
   cases hc:gJ s.data.toList with
   |none=>rfl
   |some m=>exact absurd (oR hc) (hne _)
  exact⟨_,_,by rw[mA,fG,iY,hno];rfl,ap rfl⟩
theorem nI (s:ByteArray) (hs:s.size<=1048576):Cl Tryz.prog 233 [vs s] [] fun r _=>r=mA s:=by
 obtain⟨l,hl⟩:∃l,l=s.data.toList:=⟨_,rfl⟩
 have hll:l.length=s.size:=by rw[hl];exact aE s
 refine ai ac false Tryz.func233 rfl ae ?_
 simp only[Tryz.f233,tt,seval]
 refine fun _=>?_
 have none_of (h:gJ l=none):mA s = .tu [([.v (.int .i64 0)],true),([.v (.bool false)],true)]:=by rw[mA,fG,iY,<-hl,h];rfl
 have fin0 (h:gJ l=none) {L:Ob} {p:Po}:∃r objs,r=mA s/\EndOk L p (.tu [([.v (.int .i64 0)],true),([.v (.bool false)],true)]) r 0 objs:=⟨_,[],rfl,by rw[none_of h];exact ap rfl⟩
 by_cases hs1:(s.size:Int)<1
 ·simp only[tt,seval,az hs1]
  exact fin0 (by
   cases hc:gJ l with
   |none=>rfl
   |some m=>
    obtain⟨_,h2⟩:=d7.1 hc
    obtain⟨b,r,h3,_⟩:=l6 m
    have:l.length=0:=by omega
    rw[<-h2,h3] at this;simp at this)
 ·simp only[tt,seval,au hs1]
  refine fun _=>ab (fun hs2=>?_) (fun hs2=>?_)
  ·exact fin0 (by
    cases hc:gJ l with
    |none=>rfl
    |some m=>
     obtain⟨h1,h2⟩:=d7.1 hc
     have:=fa m 18 aa
     rw[h2] at this;omega)
  ·skip
   refine dLoop.intro (fun f' L p=>∃i n:Nat,f' 5=vi i/\f' 4=vi n/\i<=l.length/\Lib.decFrom 0 (l.take i)=some n/\n<=9223372036854775807/\L=[]/\p=none) (fun f' _ _=>(s.size-eH (f' 5)).toNat) [] none ⟨ao _,aq _,?_⟩ ?_
   ·simp only[tt,seval]
    exact⟨0,0,rfl,rfl,aa,rfl,aa⟩
   ·rintro g L p ⟨i,n,h5,h4,hi,hd,hn,rfl,rfl⟩
    simp only[tt,seval] at h5 h4
    simp only[tt,seval,h5,h4,Int.ofNat_lt]
    refine fun _=>ab (fun hlt=>?_) (fun hge=>?_)
    ·have hil:i<l.length:=by omega
     have hget:l[i]?=some l[i]:=aD hil
     rw[cI hl hil]
     simp only[tt,seval]
     have dn (h:¬(48<=l[i].toNat/\l[i].toNat<=57)):gJ l=none:=by
      unfold gJ
      rw[u6 hget (by unfold Lib.digitVal;rw[if_neg h]) 0]
     by_cases hb:(l[i].toNat:Int)<48
     ·simp only[tt,seval,az hb]
      exact fin0 (dn aa)
     ·simp only[tt,seval,au hb,h5]
      rw[cI hl hil]
      simp only[tt,seval,h5]
      refine ab (fun hb2=>?_) (fun hb2=>?_)
      ·exact fin0 (dn aa)
      ·try simp only[tt,seval,h5,h4]
       rw[cI hl hil]
       simp only[tt,seval,h5,h4]
       have hbb:48<=l[i].toNat/\l[i].toNat<=57:=by omega
       obtain⟨d,hd48⟩:∃d:Nat,l[i].toNat=48+d:=⟨l[i].toNat-48,aa⟩
       have hd9:d<=9:=by omega
       have hdv:Lib.digitVal l[i]=some d:=by unfold Lib.digitVal;rw[if_pos hbb,hd48];congr 1;omega
       have hsn:Lib.decFrom 0 (l.take (i+1))=some (n*10+d):=by rw[List.take_succ_eq_append_getElem hil,gR,hd,hdv]
       rw[hd48,ax (n:=((48+d:Nat):Int)) aa aa,ax (n:=((48+d:Nat):Int)-48) aa aa,ax (n:=9223372036854775807-(((48+d:Nat):Int)-48)) aa aa]
       have ht:(9223372036854775807-(((48+d:Nat):Int)-48)).tdiv 10=(((9223372036854775807-d) / 10:Nat):Int):=by
        rw[Int.tdiv_eq_ediv_of_nonneg aa];omega
       rw[ht,ax (n:=(((9223372036854775807-d) / 10:Nat):Int)) aa aa]
       refine ab (fun ho=>?_) (fun ho=>?_)
       ·exact fin0 (by
         cases hc:gJ l with
         |none=>rfl
         |some m=>
          obtain⟨h1,h2⟩:=d7.1 hc
          have hm:=ic m
          rw[h2] at hm
          have hsp:∀(a b:List UInt8) (acc:Nat),Lib.decFrom acc (a++b)=(Lib.decFrom acc a).bind fun x=>Lib.decFrom x b:=by
           intro a
           induction a with
           |nil=>intro b acc;rfl
           |cons c r ih=>
            intro b acc
            simp only[List.cons_append,Lib.decFrom]
            cases Lib.digitVal c with
            |none=>rfl
            |some d=>exact ih b _
          have:=hsp (l.take (i+1)) (l.drop (i+1)) 0
          rw[List.take_append_drop,hm,hsn] at this
          have:=mR _ _ _ this.symm
          omega)
       ·rw[ax (n:=10*(n:Int)) aa aa,ax (n:=10*(n:Int)+(((48+d:Nat):Int)-48)) aa aa,ax (n:=(i:Int)+1) aa aa]
        exact⟨[],none,ao _,aq _,⟨i+1,n*10+d,by simp,iU aa,aa,hsn,aa,rfl,rfl⟩,aB⟩
    ·have:i=l.length:=by omega
     subst this
     rw[List.take_length] at hd
     refine cZ (nF n aa aa) ?_ ?_<;>simp only[tt,seval,h4]
     refine ab (fun he=>?_) (fun he=>?_)
     ·have he':¬d5 n=s:=by simpa only[Bool.not_eq_true',decide_eq_false_iff_not] using he
      exact fin0 (by
       unfold gJ
       rw[hd]
       refine if_neg fun hc=>he' (mQ ?_)
       rw[d5,l8,hc.2,hl])
     ·have he':d5 n=s:=by simpa only[Bool.not_eq_false',decide_eq_true_eq] using he
      have hc:gJ l=some n:=d7.2 ⟨aa,by rw[<-l8,hl,<-he'];rfl⟩
      exact⟨_,_,by rw[mA,fG,iY,<-hl,hc];rfl,ap rfl⟩
end Go.Proofs.YtbodcedhmccenaaGreatDoor
set_option maxRecDepth 8000
namespace Go.Proofs.YtbodcedhmccenaaGreatDoor
open Go Go.Dv
open Go.Vc (D dg dh cX bk)
def aJ (t:Tok):Bool:=if t.kind=1 then (decide (¬key t.text=0)&&decide (bW t.text=t.text)) else if t.kind=2 then decide (1<=t.text.size/\t.text.size<=20) else if t.kind=3 then iY t.text else if t.kind=4 then decide (t.text.size<=40) else if t.kind=5 then cW t.text else false
theorem cR (t:Tok) (hs:t.text.size<=1048576):Cl Tryz.prog 204 [.ag (ar t.row)] [] fun r _=>r=vb (aJ t):=by
 rw[Tok.row]
 refine ai ac false Tryz.func204 rfl ae ?_
 simp only[Tryz.f204,tt,seval]
 refine ab (fun h1=>?_) (fun h1=>?_)
 ·skip
  refine dDrawn.intro [] (j3 [0,2,5,6,8,10,12,16,18,15,20,22,24]) ae ?_
  simp only[tt,seval]
  refine cZ (tW t.text hs) ?_ ?_<;>simp only[tt,seval]
  have hk:=qD t.text
  have hgt:decide ((0:Int)<key t.text)=decide (¬key t.text=0):=by rw[decide_eq_decide];omega
  by_cases hz:key t.text=0
  ·simp only[tt,seval,hgt,au (not_not_intro hz)]
   exact⟨_,_,aU (by rw[aJ,if_pos h1,au (not_not_intro hz)];rfl),ap rfl⟩
  ·simp only[tt,seval,hgt,az hz]
   refine cZ (qB t.text hs) ?_ ?_<;>simp only[tt,seval]
   exact⟨_,_,aU (by rw[aJ,if_pos h1,az hz];rfl),ap rfl⟩
 ·try simp only[tt,seval]
  refine ab (fun h2=>?_) (fun h2=>?_)
  ·skip
   refine cZ (jt t.text) ?_ ?_<;>simp only[tt,seval]
   exact⟨_,_,aU (by rw[aJ,if_neg h1,if_pos h2]),ap rfl⟩
  ·try simp only[tt,seval]
   refine ab (fun h3=>?_) (fun h3=>?_)
   ·skip
    refine cZ (nI t.text hs) ?_ ?_<;>simp only[tt,seval,mA]
    exact⟨_,_,aU (by rw[aJ,if_neg h1,if_neg h2,if_pos h3]),ap rfl⟩
   ·try simp only[tt,seval]
    refine ab (fun h4=>?_) (fun h4=>?_)
    ·try simp only[tt,seval]
     refine fun _=>?_
     exact⟨_,_,aU (by rw[aJ,if_neg h1,if_neg h2,if_neg h3,if_pos h4];simp only[decide_eq_decide];omega),ap rfl⟩
    ·try simp only[tt,seval]
     refine ab (fun h5=>?_) (fun h5=>?_)
     ·skip
      refine cZ (vt t.text) ?_ ?_<;>simp only[tt,seval]
      exact⟨_,_,aU (by rw[aJ,if_neg h1,if_neg h2,if_neg h3,if_neg h4,if_pos h5]),ap rfl⟩
     ·exact⟨_,_,aU (by rw[aJ,if_neg h1,if_neg h2,if_neg h3,if_neg h4,if_neg h5]),ap rfl⟩
theorem cC (t:Tok) (hs:t.text.size<=1048576):Cl Tryz.prog 149 [.ag (ar t.row)] [] fun r _=>r=vb (aJ t):=by
 rw[Tok.row]
 refine ai ac false Tryz.func149 rfl ae ?_
 simp only[Tryz.f149,tt,seval]
 refine ab (fun h1=>?_) (fun h1=>?_)
 ·skip
  refine dDrawn.intro [] (j3 [0,2,5,6,8,10,12,16,18,15,20,22,24]) ae ?_
  simp only[tt,seval]
  refine cZ (nD t.text hs) ?_ ?_<;>simp only[tt,seval]
  have hk:=qD t.text
  have hgt:True:=trivial
  by_cases hz:key t.text=0
  ·simp only[tt,seval,az hz]
   exact⟨_,_,aU (by rw[aJ,if_pos h1,au (not_not_intro hz)];rfl),ap rfl⟩
  ·simp only[tt,seval,au hz]
   refine cZ (qc t.text hs) ?_ ?_<;>simp only[tt,seval]
   exact⟨_,_,aU (by rw[aJ,if_pos h1,az hz];rfl),ap rfl⟩
 ·try simp only[tt,seval]
  refine ab (fun h2=>?_) (fun h2=>?_)
  ·skip
   refine cZ (g6 t.text) ?_ ?_<;>simp only[tt,seval]
   exact⟨_,_,aU (by rw[aJ,if_neg h1,if_pos h2]),ap rfl⟩
  ·try simp only[tt,seval]
   refine ab (fun h3=>?_) (fun h3=>?_)
   ·skip
    refine cZ (sV t.text hs) ?_ ?_<;>simp only[tt,seval,mA]
    exact⟨_,_,aU (by rw[aJ,if_neg h1,if_neg h2,if_pos h3]),ap rfl⟩
   ·try simp only[tt,seval]
    refine ab (fun h4=>?_) (fun h4=>?_)
    ·try simp only[tt,seval]
     refine fun _=>?_
     exact⟨_,_,aU (by rw[aJ,if_neg h1,if_neg h2,if_neg h3,if_pos h4];simp only[decide_eq_decide];omega),ap rfl⟩
    ·try simp only[tt,seval]
     refine ab (fun h5=>?_) (fun h5=>?_)
     ·skip
      refine cZ (Az t.text) ?_ ?_<;>simp only[tt,seval]
      exact⟨_,_,aU (by rw[aJ,if_neg h1,if_neg h2,if_neg h3,if_neg h4,if_pos h5]),ap rfl⟩
     ·exact⟨_,_,aU (by rw[aJ,if_neg h1,if_neg h2,if_neg h3,if_neg h4,if_neg h5]),ap rfl⟩
theorem vv {s:ByteArray} (h:cW s=true):0<s.size:=by
 simp only[cW,signs,List.any_cons,List.any_nil,Bool.or_false,Bool.or_eq_true,decide_eq_true_eq] at h
 rcases h with h|h|h|h|h|h|h|h|h|h|h|h|h|h|h|h<;>(rw[h];decide)
def bU (t:Tok):ByteArray:=if aJ t=false then ⟨#[]⟩ else if t.kind=2 then gA t.text else if t.kind=4 then k8 39 t.text else t.text
def aZ (t:Tok):Bool:=decide (t.kind=1)||(decide (t.kind=3)||(decide (t.kind=2)&&dm t.text))
def cj (t:Tok):Bool:=decide (t.kind=2) && !dm t.text
def xI (a b:Tok):Bool:=
 if ¬a.kind=5 then false else if ¬b.kind=5 then false else
 if a.text=⟨#[45]⟩ then decide (b.text=⟨#[45]⟩) else if a.text=⟨#[47]⟩ then decide (b.text=⟨#[42]⟩) else
 if a.text=⟨#[60]⟩ then (decide (b.text.data.toList.headD 0=61)||decide (b.text.data.toList.headD 0=62)) else if a.text=⟨#[62]⟩ then decide (b.text.data.toList.headD 0=61) else false
def ja (a b:Tok):Bool:=if ((aZ a&&aZ b)||(cj a&&cj b)||(decide (a.kind=4)&&decide (b.kind=4)))=true then true else xI a b
def gU (a b:Tok):Bool:=if (!(aJ a&&aJ b))=true then false else ja a b
theorem gC (t:Tok) (hs:t.text.size<=1048576):Cl Tryz.prog 206 [.ag (ar t.row)] [] fun r _=>r=vs (bU t):=by
 rw[Tok.row]
 refine ai ac false Tryz.func206 rfl ae ?_
 simp only[Tryz.f206,tt,seval]
 refine cZ (cR t hs) ?_ ?_<;>simp only[tt,seval,Tok.row]
 refine ab (fun h=>?_) (fun h=>?_)
 ·have h:aJ t=false:=by simpa only[Bool.not_eq_true'] using h
  exact⟨_,_,jr (by rw[bU,if_pos h]),ap rfl⟩
 ·have h:¬aJ t=false:=by simpa only[Bool.not_eq_false',Bool.not_eq_false] using h
  refine ab (fun h2=>?_) (fun h2=>?_)
  ·skip
   refine cZ (xG t.text hs) ?_ ?_<;>simp only[tt,seval]
   exact⟨_,_,jr (by rw[bU,if_neg h,if_pos h2]),ap rfl⟩
  ·try simp only[tt,seval]
   refine ab (fun h4=>?_) (fun h4=>?_)
   ·skip
    refine cZ (vl t.text hs) ?_ ?_<;>simp only[tt,seval]
    exact⟨_,_,jr (by rw[bU,if_neg h,if_neg h2,if_pos h4]),ap rfl⟩
   ·exact⟨_,_,jr (by rw[bU,if_neg h,if_neg h2,if_neg h4]),ap rfl⟩
theorem kc (t:Tok) (hs:t.text.size<=1048576):Cl Tryz.prog 151 [.ag (ar t.row)] [] fun r _=>r=vs (bU t):=by
 rw[Tok.row]
 refine ai ac false Tryz.func151 rfl ae ?_
 simp only[Tryz.f151,tt,seval]
 refine cZ (cC t hs) ?_ ?_<;>simp only[tt,seval,Tok.row]
 refine ab (fun h=>?_) (fun h=>?_)
 ·have h:aJ t=false:=by simpa only[Bool.not_eq_true'] using h
  exact⟨_,_,jr (by rw[bU,if_pos h]),ap rfl⟩
 ·have h:¬aJ t=false:=by simpa only[Bool.not_eq_false',Bool.not_eq_false] using h
  refine ab (fun h2=>?_) (fun h2=>?_)
  ·skip
   refine cZ (vm t.text hs) ?_ ?_<;>simp only[tt,seval]
   exact⟨_,_,jr (by rw[bU,if_neg h,if_pos h2]),ap rfl⟩
  ·try simp only[tt,seval]
   refine ab (fun h4=>?_) (fun h4=>?_)
   ·skip
    refine cZ (nE t.text hs) ?_ ?_<;>simp only[tt,seval]
    exact⟨_,_,jr (by rw[bU,if_neg h,if_neg h2,if_pos h4]),ap rfl⟩
   ·exact⟨_,_,jr (by rw[bU,if_neg h,if_neg h2,if_neg h4]),ap rfl⟩
theorem qH (t:Tok) (hs:t.text.size<=1048576):Cl Tryz.prog 283 [.ag (ar t.row)] [] fun r _=>r=vb (aZ t):=by
 rw[Tok.row]
 refine ai ac false Tryz.func283 rfl ae ?_
 simp only[Tryz.f283,tt,seval]
 by_cases h1:t.kind=1
 ·simp only[tt,seval,h1]
  exact⟨_,_,aU (by rw[aZ,az h1];rfl),ap rfl⟩
 ·simp only[tt,seval,au h1]
  by_cases h3:t.kind=3
  ·simp only[tt,seval,h3]
   exact⟨_,_,aU (by rw[aZ,az h3];simp),ap rfl⟩
  ·simp only[tt,seval,au h3]
   by_cases h2:t.kind=2
   ·simp only[tt,seval,az h2]
    refine cZ (kY t.text hs) ?_ ?_<;>simp only[tt,seval]
    exact⟨_,_,aU (by rw[aZ,au h1,au h3,az h2];rfl),ap rfl⟩
   ·simp only[tt,seval,au h2]
    exact⟨_,_,aU (by rw[aZ,au h1,au h3,au h2];rfl),ap rfl⟩
theorem qI (t:Tok) (hs:t.text.size<=1048576):Cl Tryz.prog 154 [.ag (ar t.row)] [] fun r _=>r=vb (aZ t):=by
 rw[Tok.row]
 refine ai ac false Tryz.func154 rfl ae ?_
 simp only[Tryz.f154,tt,seval]
 by_cases h1:t.kind=1
 ·simp only[tt,seval,h1]
  exact⟨_,_,aU (by rw[aZ,az h1];rfl),ap rfl⟩
 ·simp only[tt,seval,au h1]
  by_cases h3:t.kind=3
  ·simp only[tt,seval,h3]
   exact⟨_,_,aU (by rw[aZ,az h3];simp),ap rfl⟩
  ·simp only[tt,seval,au h3]
   by_cases h2:t.kind=2
   ·simp only[tt,seval,az h2]
    refine cZ (jZ t.text hs) ?_ ?_<;>simp only[tt,seval]
    exact⟨_,_,aU (by rw[aZ,au h1,au h3,az h2];rfl),ap rfl⟩
   ·simp only[tt,seval,au h2]
    exact⟨_,_,aU (by rw[aZ,au h1,au h3,au h2];rfl),ap rfl⟩
theorem il (t:Tok) (hs:t.text.size<=1048576):Cl Tryz.prog 284 [.ag (ar t.row)] [] fun r _=>r=vb (cj t):=by
 rw[Tok.row]
 refine ai ac false Tryz.func284 rfl ae ?_
 simp only[Tryz.f284,tt,seval]
 by_cases h2:t.kind=2
 ·simp only[tt,seval,az h2]
  refine cZ (kY t.text hs) ?_ ?_<;>simp only[tt,seval]
  exact⟨_,_,aU (by rw[cj,az h2];rfl),ap rfl⟩
 ·simp only[tt,seval,au h2]
  exact⟨_,_,aU (by rw[cj,au h2];rfl),ap rfl⟩
theorem eL (t:Tok) (hs:t.text.size<=1048576):Cl Tryz.prog 155 [.ag (ar t.row)] [] fun r _=>r=vb (cj t):=by
 rw[Tok.row]
 refine ai ac false Tryz.func155 rfl ae ?_
 simp only[Tryz.f155,tt,seval]
 by_cases h2:t.kind=2
 ·simp only[tt,seval,az h2]
  refine cZ (jZ t.text hs) ?_ ?_<;>simp only[tt,seval]
  exact⟨_,_,aU (by rw[cj,az h2];rfl),ap rfl⟩
 ·simp only[tt,seval,au h2]
  exact⟨_,_,aU (by rw[cj,au h2];rfl),ap rfl⟩
set_option maxHeartbeats 2000000 in
theorem xJ (a b:Tok) (ha:a.text.size<=1048576) (hb:b.text.size<=1048576):Cl Tryz.prog 205 [.ag (ar a.row),.ag (ar b.row)] [] fun r _=>r=vb (gU a b):=by
 obtain⟨l,hl⟩:∃l,l=b.text.data.toList:=⟨_,rfl⟩
 have hll:l.length=b.text.size:=by rw[hl];exact aE b.text
 rw[Tok.row,Tok.row]
 refine ai ac false Tryz.func205 rfl ae ?_
 simp only[Tryz.f205,tt,seval]
 refine cZ (cR a ha) ?_ ?_<;>simp only[tt,seval,Tok.row]
 cases hoa:aJ a with
 |false=>
  simp only[tt,seval]
  exact⟨_,_,aU (by simp only[gU,hoa,Bool.false_and,Bool.not_false,reduceIte]),ap rfl⟩
 |true=>
 simp only[tt,seval]
 refine cZ (cR b hb) ?_ ?_<;>simp only[tt,seval,Tok.row]
 cases hob:aJ b with
 |false=>
  simp only[tt,seval]
  exact⟨_,_,aU (by simp only[gU,hoa,hob,Bool.and_false,Bool.not_false,reduceIte]),ap rfl⟩
 |true=>
 simp only[tt,seval]
 have g0:gU a b=ja a b:=by simp only[gU,hoa,hob,Bool.and_self,Bool.not_true,Bool.false_eq_true,reduceIte]
 refine cZ (qH a ha) ?_ ?_<;>simp only[tt,seval,Tok.row]
 have hw:(aZ a&&aZ b)=true->ja a b=true:=fun h=>by simp only[ja,h,Bool.true_or,reduceIte]
 have hq:(cj a&&cj b)=true->ja a b=true:=fun h=>by simp only[ja,h,Bool.true_or,Bool.or_true,reduceIte]
 have ht:(decide (a.kind=4)&&decide (b.kind=4))=true->ja a b=true:=fun h=>by simp only[ja,h,Bool.or_true,reduceIte]
 have he:(aZ a&&aZ b)=false->(cj a&&cj b)=false->(decide (a.kind=4)&&decide (b.kind=4))=false->ja a b=xI a b:=fun h1 h2 h3=>by simp only[ja,h1,h2,h3,Bool.or_self,Bool.false_eq_true,reduceIte]
 have hpos (h5:b.kind=5):0<l.length:=by
  have:cW b.text=true:=by rw[aJ,if_neg aa,if_neg aa,if_neg aa,if_neg aa,if_pos h5] at hob;exact hob
  have:=vv this
  omega
 have heq (hl0:0<l.length) (n:UInt8):decide (b.text.data.toList.headD 0=n)=decide ((l[0].toNat:Int)=n.toNat):=by
  rw[<-hl,decide_eq_decide]
  have:l.headD 0=l[0]:=by cases l with|nil=>exact absurd hl0 (Nat.lt_irrefl _)|cons x r=>rfl
  rw[this,<-UInt8.toNat_inj];omega
 by_cases hww:(aZ a&&aZ b)=true
 ·have hwa:aZ a=true:=by rw[Bool.and_eq_true] at hww;exact hww.1
  have hwb:aZ b=true:=by rw[Bool.and_eq_true] at hww;exact hww.2
  simp only[tt,seval,hwa]
  refine cZ (qH b hb) ?_ ?_<;>simp only[tt,seval,Tok.row]
  simp only[tt,seval,hwb]
  exact⟨_,_,aU (by rw[g0,hw hww]),ap rfl⟩
 have hww':(aZ a&&aZ b)=false:=by simpa only[Bool.not_eq_true] using hww
 have hcase:aZ a=false∨(aZ a=true/\aZ b=false):=by cases h:aZ a<;>cases h':aZ b<;>simp_all
 rcases hcase with hwa|⟨hwa,hwb⟩
 case' inl=>simp only[tt,seval,hwa]
 case' inr=>
  simp only[tt,seval,hwa]
  refine cZ (qH b hb) ?_ ?_<;>simp only[tt,seval,Tok.row]
  simp only[tt,seval,hwb]
 all_goals
  by_cases HTT:(decide (a.kind=4)&&decide (b.kind=4))=true
  ·have hta:a.kind=4:=by rw[Bool.and_eq_true] at HTT;exact of_decide_eq_true HTT.1
   have htb:b.kind=4:=by rw[Bool.and_eq_true] at HTT;exact of_decide_eq_true HTT.2
   simp only[tt,seval,az hta]
   simp only[tt,seval,htb]
   exact⟨_,_,aU (by rw[g0,ht HTT]),ap rfl⟩
  have HT:(decide (a.kind=4)&&decide (b.kind=4))=false:=by simpa only[Bool.not_eq_true] using HTT
  have hcase:¬a.kind=4∨(a.kind=4 /\ ¬b.kind=4):=by cases h:decide (a.kind=4)<;>cases h':decide (b.kind=4)<;>simp_all
  rcases hcase with hta|⟨hta,htb⟩
  case' inl=>simp only[tt,seval,au hta]
  case' inr=>
   simp only[tt,seval,az hta]
   simp only[tt,seval,htb]
  all_goals
   by_cases HQQ:(cj a&&cj b)=true
   ·have hqa:cj a=true:=by rw[Bool.and_eq_true] at HQQ;exact HQQ.1
    have hqb:cj b=true:=by rw[Bool.and_eq_true] at HQQ;exact HQQ.2
    refine cZ (il a ha) ?_ ?_<;>simp only[tt,seval,Tok.row]
    simp only[tt,seval,hqa]
    refine cZ (il b hb) ?_ ?_<;>simp only[tt,seval,Tok.row]
    simp only[tt,seval,hqb]
    exact⟨_,_,aU (by rw[g0,hq HQQ]),ap rfl⟩
   have HQ:(cj a&&cj b)=false:=by simpa only[Bool.not_eq_true] using HQQ
   have hcase:cj a=false∨(cj a=true/\cj b=false):=by cases h:cj a<;>cases h':cj b<;>simp_all
   rcases hcase with hqa|⟨hqa,hqb⟩
   case' inl=>
    refine cZ (il a ha) ?_ ?_<;>simp only[tt,seval,Tok.row]
    simp only[tt,seval,hqa]
   case' inr=>
    refine cZ (il a ha) ?_ ?_<;>simp only[tt,seval,Tok.row]
    simp only[tt,seval,hqa]
    refine cZ (il b hb) ?_ ?_<;>simp only[tt,seval,Tok.row]
    simp only[tt,seval,hqb]
   all_goals
    rw[g0,he hww' HQ HT,xI]
    by_cases h5a:a.kind=5
    ·rw[if_neg (not_not_intro h5a)]
     simp only[tt,seval,az h5a]
     refine ab (fun h5b=>?_) (fun h5b=>?_)
     ·have h5b:¬b.kind=5:=by simpa only[Bool.not_eq_true',decide_eq_false_iff_not] using h5b
      exact⟨_,_,aU (by rw[if_pos h5b]),ap rfl⟩
     ·have h5b:b.kind=5:=by simpa only[Bool.not_eq_false',decide_eq_true_eq] using h5b
      rw[if_neg (not_not_intro h5b)]
      have hl0:=hpos h5b
      refine ab (fun t1=>?_) (fun t1=>?_)
      ·exact⟨_,_,aU (by rw[if_pos t1]),ap rfl⟩
      ·try simp only[tt,seval]
       refine ab (fun t2=>?_) (fun t2=>?_)
       ·exact⟨_,_,aU (by rw[if_neg t1,if_pos t2]),ap rfl⟩
       ·try simp only[tt,seval]
        refine ab (fun t3=>?_) (fun t3=>?_)
        ·try simp only[tt,seval]
         rw[kX hl hl0,if_neg t1,if_neg t2,if_pos t3,heq hl0 61,heq hl0 62]
         simp only[tt,seval]
         by_cases hx:(l[0].toNat:Int)=61
         ·simp only[tt,seval,az hx]
          exact⟨_,_,aU rfl,ap rfl⟩
         ·simp only[tt,seval,au hx]
          rw[kX hl hl0]
          simp only[tt,seval]
          exact⟨_,_,aU rfl,ap rfl⟩
        ·try simp only[tt,seval]
         refine ab (fun t4=>?_) (fun t4=>?_)
         ·try simp only[tt,seval]
          rw[kX hl hl0,if_neg t1,if_neg t2,if_neg t3,if_pos t4,heq hl0 61]
          simp only[tt,seval]
          exact⟨_,_,aU rfl,ap rfl⟩
         ·exact⟨_,_,aU (by rw[if_neg t1,if_neg t2,if_neg t3,if_neg t4]),ap rfl⟩
    ·simp only[tt,seval,au h5a]
     exact⟨_,_,aU (by rw[if_pos h5a]),ap rfl⟩
set_option maxHeartbeats 2000000 in
theorem vw (a b:Tok) (ha:a.text.size<=1048576) (hb:b.text.size<=1048576):Cl Tryz.prog 74 [.ag (ar a.row),.ag (ar b.row)] [] fun r _=>r=vb (gU a b):=by
 obtain⟨l,hl⟩:∃l,l=b.text.data.toList:=⟨_,rfl⟩
 have hll:l.length=b.text.size:=by rw[hl];exact aE b.text
 rw[Tok.row,Tok.row]
 refine ai ac false Tryz.func74 rfl ae ?_
 simp only[Tryz.f74,tt,seval]
 refine cZ (cC a ha) ?_ ?_<;>simp only[tt,seval,Tok.row]
 cases hoa:aJ a with
 |false=>
  simp only[tt,seval]
  exact⟨_,_,aU (by simp only[gU,hoa,Bool.false_and,Bool.not_false,reduceIte]),ap rfl⟩
 |true=>
 simp only[tt,seval]
 refine cZ (cC b hb) ?_ ?_<;>simp only[tt,seval,Tok.row]
 cases hob:aJ b with
 |false=>
  simp only[tt,seval]
  exact⟨_,_,aU (by simp only[gU,hoa,hob,Bool.and_false,Bool.not_false,reduceIte]),ap rfl⟩
 |true=>
 simp only[tt,seval]
 have g0:gU a b=ja a b:=by simp only[gU,hoa,hob,Bool.and_self,Bool.not_true,Bool.false_eq_true,reduceIte]
 refine cZ (qI a ha) ?_ ?_<;>simp only[tt,seval,Tok.row]
 have hw:(aZ a&&aZ b)=true->ja a b=true:=fun h=>by simp only[ja,h,Bool.true_or,reduceIte]
 have hq:(cj a&&cj b)=true->ja a b=true:=fun h=>by simp only[ja,h,Bool.true_or,Bool.or_true,reduceIte]
 have ht:(decide (a.kind=4)&&decide (b.kind=4))=true->ja a b=true:=fun h=>by simp only[ja,h,Bool.or_true,reduceIte]
 have he:(aZ a&&aZ b)=false->(cj a&&cj b)=false->(decide (a.kind=4)&&decide (b.kind=4))=false->ja a b=xI a b:=fun h1 h2 h3=>by simp only[ja,h1,h2,h3,Bool.or_self,Bool.false_eq_true,reduceIte]
 have hpos (h5:b.kind=5):0<l.length:=by
  have:cW b.text=true:=by rw[aJ,if_neg aa,if_neg aa,if_neg aa,if_neg aa,if_pos h5] at hob;exact hob
  have:=vv this
  omega
 have heq (hl0:0<l.length) (n:UInt8):decide (b.text.data.toList.headD 0=n)=decide ((l[0].toNat:Int)=n.toNat):=by
  rw[<-hl,decide_eq_decide]
  have:l.headD 0=l[0]:=by cases l with|nil=>exact absurd hl0 (Nat.lt_irrefl _)|cons x r=>rfl
  rw[this,<-UInt8.toNat_inj];omega
 by_cases hww:(aZ a&&aZ b)=true
 ·have hwa:aZ a=true:=by rw[Bool.and_eq_true] at hww;exact hww.1
  have hwb:aZ b=true:=by rw[Bool.and_eq_true] at hww;exact hww.2
  simp only[tt,seval,hwa]
  refine cZ (qI b hb) ?_ ?_<;>simp only[tt,seval,Tok.row]
  simp only[tt,seval,hwb]
  exact⟨_,_,aU (by rw[g0,hw hww]),ap rfl⟩
 have hww':(aZ a&&aZ b)=false:=by simpa only[Bool.not_eq_true] using hww
 have hcase:aZ a=false∨(aZ a=true/\aZ b=false):=by cases h:aZ a<;>cases h':aZ b<;>simp_all
 rcases hcase with hwa|⟨hwa,hwb⟩
 case' inl=>simp only[tt,seval,hwa]
 case' inr=>
  simp only[tt,seval,hwa]
  refine cZ (qI b hb) ?_ ?_<;>simp only[tt,seval,Tok.row]
  simp only[tt,seval,hwb]
 all_goals
  by_cases HQQ:(cj a&&cj b)=true
  ·have hqa:cj a=true:=by rw[Bool.and_eq_true] at HQQ;exact HQQ.1
   have hqb:cj b=true:=by rw[Bool.and_eq_true] at HQQ;exact HQQ.2
   refine cZ (eL a ha) ?_ ?_<;>simp only[tt,seval,Tok.row]
   simp only[tt,seval,hqa]
   refine cZ (eL b hb) ?_ ?_<;>simp only[tt,seval,Tok.row]
   simp only[tt,seval,hqb]
   exact⟨_,_,aU (by rw[g0,hq HQQ]),ap rfl⟩
  have HQ:(cj a&&cj b)=false:=by simpa only[Bool.not_eq_true] using HQQ
  have hcase:cj a=false∨(cj a=true/\cj b=false):=by cases h:cj a<;>cases h':cj b<;>simp_all
  rcases hcase with hqa|⟨hqa,hqb⟩
  case' inl=>
   refine cZ (eL a ha) ?_ ?_<;>simp only[tt,seval,Tok.row]
   simp only[tt,seval,hqa]
  case' inr=>
   refine cZ (eL a ha) ?_ ?_<;>simp only[tt,seval,Tok.row]
   simp only[tt,seval,hqa]
   refine cZ (eL b hb) ?_ ?_<;>simp only[tt,seval,Tok.row]
   simp only[tt,seval,hqb]
  all_goals
   by_cases HTT:(decide (a.kind=4)&&decide (b.kind=4))=true
   ·have hta:a.kind=4:=by rw[Bool.and_eq_true] at HTT;exact of_decide_eq_true HTT.1
    have htb:b.kind=4:=by rw[Bool.and_eq_true] at HTT;exact of_decide_eq_true HTT.2
    simp only[tt,seval,az hta]
    simp only[tt,seval,htb]
    exact⟨_,_,aU (by rw[g0,ht HTT]),ap rfl⟩
   have HT:(decide (a.kind=4)&&decide (b.kind=4))=false:=by simpa only[Bool.not_eq_true] using HTT
   have hcase:¬a.kind=4∨(a.kind=4 /\ ¬b.kind=4):=by cases h:decide (a.kind=4)<;>cases h':decide (b.kind=4)<;>simp_all
   rcases hcase with hta|⟨hta,htb⟩
   case' inl=>simp only[tt,seval,au hta]
   case' inr=>
    simp only[tt,seval,az hta]
    simp only[tt,seval,htb]
   all_goals
    rw[g0,he hww' HQ HT,xI]
    by_cases h5a:a.kind=5
    ·rw[if_neg (not_not_intro h5a)]
     simp only[tt,seval,az h5a]
     refine ab (fun h5b=>?_) (fun h5b=>?_)
     ·have h5b:¬b.kind=5:=by simpa only[Bool.not_eq_true',decide_eq_false_iff_not] using h5b
      exact⟨_,_,aU (by rw[if_pos h5b]),ap rfl⟩
     ·have h5b:b.kind=5:=by simpa only[Bool.not_eq_false',decide_eq_true_eq] using h5b
      rw[if_neg (not_not_intro h5b)]
      have hl0:=hpos h5b
      refine ab (fun t1=>?_) (fun t1=>?_)
      ·exact⟨_,_,aU (by rw[if_pos t1]),ap rfl⟩
      ·try simp only[tt,seval]
       refine ab (fun t2=>?_) (fun t2=>?_)
       ·exact⟨_,_,aU (by rw[if_neg t1,if_pos t2]),ap rfl⟩
       ·try simp only[tt,seval]
        refine ab (fun t3=>?_) (fun t3=>?_)
        ·try simp only[tt,seval]
         rw[kX hl hl0,if_neg t1,if_neg t2,if_pos t3,heq hl0 61,heq hl0 62]
         simp only[tt,seval]
         by_cases hx:(l[0].toNat:Int)=61
         ·simp only[tt,seval,az hx]
          exact⟨_,_,aU rfl,ap rfl⟩
         ·simp only[tt,seval,au hx]
          rw[kX hl hl0]
          simp only[tt,seval]
          exact⟨_,_,aU rfl,ap rfl⟩
        ·try simp only[tt,seval]
         refine ab (fun t4=>?_) (fun t4=>?_)
         ·try simp only[tt,seval]
          rw[kX hl hl0,if_neg t1,if_neg t2,if_neg t3,if_pos t4,heq hl0 61]
          simp only[tt,seval]
          exact⟨_,_,aU rfl,ap rfl⟩
         ·exact⟨_,_,aU (by rw[if_neg t1,if_neg t2,if_neg t3,if_neg t4]),ap rfl⟩
    ·simp only[tt,seval,au h5a]
     exact⟨_,_,aU (by rw[if_pos h5a]),ap rfl⟩
def jn (l:List Tok) (i:Nat):List UInt8:=if h:i<l.length then (if 0<i/\gU (l[i-1]'(by omega)) l[i]=true then [32] else [])++(bU l[i]).data.toList else []
def eE (l:List Tok) (k:Nat):List UInt8:=(List.range k).flatMap (jn l)
theorem cV (l:List Tok) (k:Nat):eE l (k+1)=eE l k++jn l k:=by
 unfold eE
 rw[List.range_succ,List.flatMap_append];simp
theorem qJ (l:List Tok) {k m:Nat} (h:k<=m):(eE l k).length<=(eE l m).length:=by
 induction m with
 |zero=>rw[Nat.le_zero.1 h];exact Nat.le_refl _
 |succ m ih=>
  by_cases e:k=m+1
  ·subst e;exact Nat.le_refl _
  ·rw[cV,aC];exact Nat.le_trans (ih aa) (Nat.le_add_right _ _)
theorem yT (l:List Tok) {i:Nat} (h:i<l.length):jn l i=(if 0<i/\gU (l[i-1]'(by omega)) l[i]=true then [32] else [])++(bU l[i]).data.toList:=dif_pos h
def bS (l:List Tok):ByteArray:=if l.all aJ=true then (if 2000<(eE l l.length).length then ⟨#[]⟩ else ⟨(eE l l.length).toArray⟩) else ⟨#[]⟩
theorem qK {l:List Tok} {i:Nat} (h:i<l.length) (hb:aJ l[i]=false):bS l=⟨#[]⟩:=by
 unfold bS
 refine if_neg fun ha=>?_
 have:=List.all_eq_true.1 ha _ (aO h)
 rw[hb] at this;cases this
theorem BM {l:List Tok} (h:∀j (hj:j<l.length),aJ l[j]=true):l.all aJ=true:=List.all_eq_true.2 fun x hx=>by
 obtain⟨j,hj,rfl⟩:=List.mem_iff_getElem.1 hx
 exact h j hj
theorem sW:([.lit (.int .u8 32)]:List D)=aR [32]:=rfl
theorem BN (l:List Tok) (hT:∀t∈l,t.text.size<=1048576) (hb:(eE l l.length).length<=50000000):Cl Tryz.prog 102 [.c (.sl l.length (l.flatMap Tok.row) none),vb false] [] fun r _=>r=vs (bS l):=by
 refine ai ac false Tryz.func102 rfl ae ?_
 simp only[Tryz.f102,tt,seval]
 refine dLoop.gh [.ren 7 46] ⟨ah,ah,?_⟩
 refine dLoop0.intro (fun f L p=>∃(i:Nat) (bs:List UInt8),f 6=vi i/\f 5 = .c (.s 46 bs.length)/\i<=l.length/\bs=eE l i/\(∀j (hj:j<l.length),j<i->aJ l[j]=true)/\L=[(46,.arr 5 bs.length (aR bs) none)]/\p=none) (fun f _ _=>(l.length-eH (f 6)).toNat) [(46,.arr 5 0 (aR []) none)] none ⟨ak rfl (ao _),aq _,?_⟩ ?_
 ·simp only[tt,seval]
  exact⟨0,[],rfl,rfl,aa,rfl,fun j _ h=>absurd h (Nat.not_lt_zero _),rfl⟩
 ·rintro g L p ⟨i,bs,h6,h5,hi,hbs,hok,rfl,rfl⟩
  simp only[tt,seval] at h6 h5
  simp only[tt,seval,h6,h5,Int.ofNat_lt]
  refine fun _=>ab (fun hlt=>?_) (fun hge=>?_)
  ·have hsz:bs.length+(jn l i).length<=50000000:=by
    have:=qJ l (show i+1<=l.length by omega)
    rw[cV,aC] at this
    rw[hbs];omega
   have hjn:=yT l hlt
   have htx:=hT _ (aO hlt)
   refine⟨aa,aa,_,aH Tok.row_len (aD hlt),Tok.ne _ _,?_⟩
   simp only[seval,Tok.tk]
   refine cZ (cR l[i] htx) ?_ ?_<;>simp only[tt,seval,Tok.row]
   refine ab (fun hbad=>?_) (fun hgood=>?_)
   ·exact⟨_,_,jr (qK hlt (by simpa only[Bool.not_eq_true'] using hbad)).symm,ap rfl⟩
   ·have hgood:aJ l[i]=true:=by simpa only[Bool.not_eq_false'] using hgood
    have hok':∀j (hj:j<l.length),j<i+1->aJ l[j]=true:=fun j hj hji=>by
     by_cases e:j=i
     ·subst e;exact hgood
     ·exact hok j hj aa
    refine dDrawn.intro [] (j3 [0,2,4,6,8,10,12,14,16,18,20,22,24,26,29,30,32]) ae ?_
    simp only[tt,seval]
    simp only[tt,seval,h6]
    have nogap (hng:¬(0<i/\gU (l[i-1]'(by omega)) l[i]=true)):jn l i=(bU l[i]).data.toList:=by rw[hjn,if_neg hng];rfl
    by_cases hi0:(0:Int)<i
    ·have hlt1:i-1<l.length:=by omega
     simp only[tt,seval,az hi0,h6]
     rw[ax (n:=(i:Int)-1) aa aa,show (i:Int)-1=((i-1:Nat):Int) by omega]
     refine⟨aa,aa,_,aH Tok.row_len (aD hlt1),Tok.ne _ _,?_⟩
     simp only[tt,seval,Tok.tk]
     refine⟨aa,aa,_,aH Tok.row_len (aD hlt),Tok.ne _ _,?_⟩
     simp only[seval,Tok.tk]
     refine cZ (xJ (l[i-1]'hlt1) l[i] (hT _ (aO hlt1)) htx) ?_ ?_<;>simp only[tt,seval,h6,h5,Tok.row]
     cases hgp:gU (l[i-1]'hlt1) l[i] with
     |true=>
      have hjn':jn l i=[32]++(bU l[i]).data.toList:=by rw[hjn,if_pos ⟨aa,hgp⟩]
      have hsz':bs.length+1+(bU l[i]).size<=50000000:=by rw[hjn',aC,aE] at hsz;simp only[List.length_singleton] at hsz;omega
      simp only[tt,seval]
      refine kU ?_
      rw[sW]
      refine⟨aa,aa,_,aH Tok.row_len (aD hlt),Tok.ne _ _,?_⟩
      simp only[seval,Tok.tk]
      refine cZ (gC l[i] htx) ?_ ?_<;>simp only[tt,seval,h6,Tok.row]
      refine⟨ae,by rw[eI,aE,Nat.mul_one],⟨by simp only[maxLen];omega,aa⟩,?_⟩
      have e:((bs++[32])++(bU l[i]).data.toList).length=bs.length+1+(bU l[i]).size:=by rw[aC,aE];simp
      rw[eJ,eJ,<-e,ax (n:=(i:Int)+1) aa aa]
      exact⟨_,none,ak rfl (ao _),aq _,⟨i+1,_,rfl,rfl,aa,by rw[cV,hjn',hbs,aL],hok',rfl,rfl⟩,aB⟩
     |false=>
      simp only[tt,seval]
      have hjn':=nogap (by rw[hgp];simp)
      have hsz':bs.length+(bU l[i]).size<=50000000:=by rw[hjn',aE] at hsz;omega
      refine⟨aa,aa,_,aH Tok.row_len (aD hlt),Tok.ne _ _,?_⟩
      simp only[seval,Tok.tk]
      refine cZ (gC l[i] htx) ?_ ?_<;>simp only[tt,seval,h6,Tok.row]
      refine⟨ae,by rw[eI,aE,Nat.mul_one],⟨by simp only[maxLen];omega,aa⟩,?_⟩
      have e:(bs++(bU l[i]).data.toList).length=bs.length+(bU l[i]).size:=by rw[aC,aE]
      rw[eJ,<-e,ax (n:=(i:Int)+1) aa aa]
      exact⟨_,none,ak rfl (ao _),aq _,⟨i+1,_,rfl,rfl,aa,by rw[cV,hjn',hbs],hok',rfl,rfl⟩,aB⟩
    ·simp only[tt,seval,au hi0,h6,h5]
     have hjn':=nogap aa
     have hsz':bs.length+(bU l[i]).size<=50000000:=by rw[hjn',aE] at hsz;omega
     refine⟨aa,aa,_,aH Tok.row_len (aD hlt),Tok.ne _ _,?_⟩
     simp only[seval,Tok.tk]
     refine cZ (gC l[i] htx) ?_ ?_<;>simp only[tt,seval,h6,Tok.row]
     refine⟨ae,by rw[eI,aE,Nat.mul_one],⟨by simp only[maxLen];omega,aa⟩,?_⟩
     have e:(bs++(bU l[i]).data.toList).length=bs.length+(bU l[i]).size:=by rw[aC,aE]
     rw[eJ,<-e,ax (n:=(i:Int)+1) aa aa]
     exact⟨_,none,ak rfl (ao _),aq _,⟨i+1,_,rfl,rfl,aa,by rw[cV,hjn',hbs],hok',rfl,rfl⟩,aB⟩
  ·have hie:i=l.length:=by omega
   subst hie
   have hall:=BM fun j hj=>hok j hj hj
   refine fun _=>ab (fun h2=>?_) (fun h2=>?_)
   ·exact⟨_,_,jr (by rw[bS,if_pos hall,if_pos (by rw[<-hbs];omega)]),ap rfl⟩
   ·try simp only[tt,seval]
    refine⟨ae,by simp only[maxLen];omega,bs,rfl,rfl,?_⟩
    simp only[tt,seval]
    exact⟨_,_,jr (by rw[bS,if_pos hall,if_neg (by rw[<-hbs];omega),hbs]),ap rfl⟩
theorem BO (l:List Tok) (hT:∀t∈l,t.text.size<=1048576) (hb:(eE l l.length).length<=50000000):Cl Tryz.prog 41 [.c (.sl l.length (l.flatMap Tok.row) none)] [] fun r _=>r=vs (bS l):=by
 refine ai ac false Tryz.func41 rfl ae ?_
 simp only[Tryz.f41,tt,seval]
 refine cZ (BN l hT hb) ?_ ?_<;>simp only[tt,seval]
 exact⟨_,_,rfl,ap rfl⟩
theorem u7 (a:List UInt8) (s:ByteArray):a.length+s.size=(a++s.data.toList).length:=by rw[aC,aE]
theorem IC (n:Nat) (ds:List D):Cl Tryz.prog 152 [.c (.p 9000 0)] [[.self,.ow 5 n ds none]] fun r os=>r=vi n/\os=[[.self,.ow 5 n ds none]]:=by
 refine ai ac false Tryz.func152 rfl ae ?_
 simp only[Tryz.f152,tt,seval]
 refine fun _=>⟨vi n,[[.self,.ow 5 n ds none]],⟨rfl,rfl⟩,am ?_⟩
 simp only[tt,seval]
theorem BP (l:List Tok) (hT:∀t∈l,t.text.size<=1048576) (hb:(eE l l.length).length<=50000000):Cl Tryz.prog 73 [.c (.sl l.length (l.flatMap Tok.row) none),.c (.fn 74 [] [])] [] fun r _=>r=vs (bS l):=by
 refine ai ac false Tryz.func73 rfl ae ?_
 simp only[Tryz.f73,tt,seval]
 refine fun _=>?_
 refine dLoop.gh [.virtC 5 1 10010034 5] ⟨ah,?_⟩
 simp only[tt,seval]
 refine dLoop0.intro (fun f L p=>∃(i:Nat) (bs:List UInt8) (F:Fp),f 11=vi i/\i<=l.length/\bs=eE l i/\(∀j (hj:j<l.length),j<i->aJ l[j]=true)/\L=[(5,.str [.self,.s 10010034 bs.length]),(10010034,.arr 5 bs.length (aR bs) F)]/\p=none) (fun f _ _=>(l.length-eH (f 11)).toNat) [(5,.str [.self,.s 10010034 0]),(10010034,.arr 5 0 (aR []) (some []))] none ⟨ak rfl (ak rfl (ao _)),aq _,?_⟩ ?_
 ·simp only[tt,seval]
  exact⟨0,[],some [],rfl,aa,rfl,fun j _ h=>absurd h (Nat.not_lt_zero _),rfl⟩
 ·rintro g L p ⟨i,bs,F,h11,hi,hbs,hok,rfl,rfl⟩
  simp only[tt,seval] at h11
  simp only[tt,seval,h11,Int.ofNat_lt]
  refine ab (fun hlt=>?_) (fun hge=>?_)
  ·have hsz:bs.length+(jn l i).length<=50000000:=by
    have:=qJ l (show i+1<=l.length by omega)
    rw[cV,aC] at this
    rw[hbs];omega
   have hjn:=yT l hlt
   have htx:=hT _ (aO hlt)
   refine⟨aa,aa,_,aH Tok.row_len (aD hlt),Tok.ne _ _,?_⟩
   simp only[tt,seval,Tok.row]
   refine cZ (cC l[i] htx) ?_ ?_<;>simp only[tt,seval,Tok.row]
   refine ab (fun hbad=>?_) (fun hgood=>?_)
   ·exact⟨_,_,jr (qK hlt (by simpa only[Bool.not_eq_true'] using hbad)).symm,ap rfl⟩
   ·have hgood:aJ l[i]=true:=by simpa only[Bool.not_eq_false'] using hgood
    have hok':∀j (hj:j<l.length),j<i+1->aJ l[j]=true:=fun j hj hji=>by
     by_cases e:j=i
     ·subst e;exact hgood
     ·exact hok j hj aa
    refine dDrawn.intro [] (j3 [0,2,4,6,8,10,12,14,16,18,21,22]) ae ?_
    simp only[tt,seval]
    have nogap (hng:¬(0<i/\gU (l[i-1]'(by omega)) l[i]=true)):jn l i=(bU l[i]).data.toList:=by rw[hjn,if_neg hng];rfl
    by_cases hi0:(0:Int)<i
    ·have hlt1:i-1<l.length:=by omega
     simp only[tt,seval,az hi0]
     rw[ax (n:=(i:Int)-1) aa aa,show (i:Int)-1=((i-1:Nat):Int) by omega]
     refine⟨aa,aa,_,aH Tok.row_len (aD hlt1),Tok.ne _ _,?_⟩
     simp only[tt,seval,Tok.tk]
     refine cZ (vw (l[i-1]'hlt1) l[i] (hT _ (aO hlt1)) htx) ?_ ?_<;>simp only[tt,seval,Tok.row]
     cases hgp:gU (l[i-1]'hlt1) l[i] with
     |true=>
      have hjn':jn l i=[32]++(bU l[i]).data.toList:=by rw[hjn,if_pos ⟨aa,hgp⟩]
      have hsz':bs.length+1+(bU l[i]).size<=50000000:=by rw[hjn',aC,aE] at hsz;simp only[List.length_singleton] at hsz;omega
      simp only[tt,seval]
      refine cS (gv bs ⟨#[32]⟩ (by show bs.length+1<=_;omega)) ?_ ?_<;>simp only[tt,seval]
      refine cZ (kc l[i] htx) ?_ ?_<;>simp only[tt,seval,Tok.row]
      have e1:bs.length+(⟨#[32]⟩:ByteArray).size=(bs++(⟨#[32]⟩:ByteArray).data.toList).length:=by rw[aC];rfl
      rw[e1]
      refine cS (gv (bs++(⟨#[32]⟩:ByteArray).data.toList) (bU l[i]) (by rw[<-e1];show bs.length+1+_<=_;omega)) ?_ ?_<;>simp only[tt,seval,h11]
      rw[u7 (bs++[32]) (bU l[i]),ax (n:=(i:Int)+1) aa aa]
      exact⟨[(5,.str [.self,.s 10010034 ((bs++[32])++(bU l[i]).data.toList).length]),(10010034,.arr 5 ((bs++[32])++(bU l[i]).data.toList).length (aR ((bs++[32])++(bU l[i]).data.toList)) none)],none,ak rfl (ak rfl (ao _)),aq _,⟨i+1,_,none,rfl,aa,by rw[cV,hjn',hbs,aL],hok',rfl,rfl⟩,aB⟩
     |false=>
      have hjn':=nogap (by rw[hgp];simp)
      have hsz':bs.length+(bU l[i]).size<=50000000:=by rw[hjn',aE] at hsz;omega
      simp only[tt,seval]
      refine cZ (kc l[i] htx) ?_ ?_<;>simp only[tt,seval,Tok.row]
      refine cS (gv bs (bU l[i]) aa) ?_ ?_<;>simp only[tt,seval,h11]
      rw[u7 bs (bU l[i]),ax (n:=(i:Int)+1) aa aa]
      exact⟨[(5,.str [.self,.s 10010034 (bs++(bU l[i]).data.toList).length]),(10010034,.arr 5 (bs++(bU l[i]).data.toList).length (aR (bs++(bU l[i]).data.toList)) none)],none,ak rfl (ak rfl (ao _)),aq _,⟨i+1,_,none,rfl,aa,by rw[cV,hjn',hbs],hok',rfl,rfl⟩,aB⟩
    ·have hjn':=nogap aa
     have hsz':bs.length+(bU l[i]).size<=50000000:=by rw[hjn',aE] at hsz;omega
     simp only[tt,seval,au hi0]
     refine cZ (kc l[i] htx) ?_ ?_<;>simp only[tt,seval,Tok.row]
     refine cS (gv bs (bU l[i]) aa) ?_ ?_<;>simp only[tt,seval,h11]
     rw[u7 bs (bU l[i]),ax (n:=(i:Int)+1) aa aa]
     exact⟨[(5,.str [.self,.s 10010034 (bs++(bU l[i]).data.toList).length]),(10010034,.arr 5 (bs++(bU l[i]).data.toList).length (aR (bs++(bU l[i]).data.toList)) none)],none,ak rfl (ak rfl (ao _)),aq _,⟨i+1,_,none,rfl,aa,by rw[cV,hjn',hbs],hok',rfl,rfl⟩,aB⟩
  ·have hie:i=l.length:=by omega
   subst hie
   have hall:=BM fun j hj=>hok j hj hj
   have hbl:bs.length<=50000000:=by rw[hbs];exact hb
   refine cS (IC bs.length (aR bs)) ?_ ?_<;>simp only[tt,seval]
   refine ab (fun h2=>?_) (fun h2=>?_)
   ·exact⟨_,_,jr (by rw[bS,if_pos hall,if_pos (by rw[<-hbs];omega)]),ap rfl⟩
   ·try simp only[tt,seval,h11]
    refine cS (BK bs aa) ?_ ?_<;>simp only[tt,seval]
    exact⟨_,_,jr (by rw[bS,if_pos hall,if_neg (by rw[<-hbs];omega),hbs]),ap rfl⟩
theorem AA (l:List Tok) (hT:∀t∈l,t.text.size<=1048576) (hb:(eE l l.length).length<=50000000):Cl Tryz.prog 21 [.c (.sl l.length (l.flatMap Tok.row) none)] [] fun r _=>r=vs (bS l):=by
 refine ai ac false Tryz.func21 rfl ae ?_
 simp only[Tryz.f21,tt,seval]
 refine cZ (BP l hT hb) ?_ ?_<;>simp only[tt,seval]
 exact⟨_,_,rfl,ap rfl⟩
def Expr.kind:Expr->Int | .mk k _ _ _ _ _ _ _=>k
def Expr.op:Expr->Int | .mk _ o _ _ _ _ _ _=>o
def Expr.kids:Expr->List Expr | .mk _ _ _ _ _ _ k _=>k
def Expr.sub:Expr->List Query | .mk _ _ _ _ _ _ _ s=>s
def bl (op:Int):Int:=if op=1 then 1 else if op=2 then 2 else if 3<=op/\op<=8 then 4 else if op=9 then 5 else if op=10∨op=11 then 6 else if 12<=op/\op<=14 then 7 else 0
def lv (k op:Int):Int:=if k=4 then bl op else if k=3 then (if op=15 then 3 else if op=16 then 8 else 0) else if 5<=k/\k<=8 then 4 else if k=1∨k=2∨k=9 then 9 else 0
def kP (e:Expr):Int:=lv e.kind e.op
theorem mh (k op:Int):0<=lv k op/\lv k op<=9:=by unfold lv bl;(repeat' split)<;>omega
def nd (kind op:Int) (k:Nat):Int:=if lv kind op=0∨lv kind op=9 then 0 else if kind=4 then (if lv kind op=4 then 5 else if k=0 then lv kind op else lv kind op+1) else if kind=3 then lv kind op else if kind=7/\0<k then 1 else 5
def kE (kind op:Int) (kids:List Expr) (k:Nat):Bool:=decide (kP (kids.getD k (.mk 0 0 false ⟨0,0,⟨#[]⟩⟩ ⟨#[]⟩ ⟨#[]⟩ [] []))<nd kind op k)
theorem xK (op:Int):Cl Tryz.prog 318 [vi op] [] fun r _=>r=vi (bl op):=by
 refine ai ac false Tryz.func318 rfl ae ?_
 simp only[Tryz.f318,tt,seval]
 all_goals repeat' first|(refine ab (fun h=>?_) (fun h=>?_)<;>try simp only[tt,seval])|(intro _;try simp only[tt,seval])
 all_goals first|contradiction|exact⟨_,_,iU (by subst_vars;rfl),ap rfl⟩|exact⟨_,_,iU (by unfold bl;(repeat' split)<;>omega),ap rfl⟩
theorem mS (e:Expr):Cl Tryz.prog 278 [.ag (ar e.row)] [] fun r _=>r=vi (kP e):=by
 obtain⟨kind,op,not,val,qual,name,kids,sub⟩:=e
 rw[Expr.row_mk,kP,Expr.kind,Expr.op]
 refine ai ac false Tryz.func278 rfl ae ?_
 simp only[Tryz.f278,tt,seval]
 refine ab (fun h4=>?_) (fun h4=>?_)
 ·skip
  refine cZ (xK op) ?_ ?_<;>simp only[tt,seval]
  exact⟨_,_,iU (by rw[lv,if_pos h4]),ap rfl⟩
 all_goals repeat' first|(refine ab (fun h=>?_) (fun h=>?_)<;>try simp only[tt,seval])|(intro _;try simp only[tt,seval])
 all_goals exact⟨_,_,iU (by unfold lv;(repeat' split)<;>omega),ap rfl⟩
def Jr:List Int:=[0,1,2,4,4,4,4,4,4,5,6,6,7,7,7]
theorem Er:([.lit (.int .i64 0),.lit (.int .i64 1),.lit (.int .i64 2),.lit (.int .i64 4),.lit (.int .i64 4),.lit (.int .i64 4),.lit (.int .i64 4),.lit (.int .i64 4),.lit (.int .i64 4),.lit (.int .i64 5),.lit (.int .i64 6),.lit (.int .i64 6),.lit (.int .i64 7),.lit (.int .i64 7),.lit (.int .i64 7)]:List D)=Jr.flatMap irow:=rfl
theorem vx (n:Int):(irow n).length=1:=rfl
theorem Et (v:Int) (r:List D):irow v++r≠[]:=fun h=>by cases h
theorem Eu:∀n:Fin 15,1<=n.1->Jr[n.1]'n.2=bl n.1:=by decide
theorem mi (e:Expr):Cl Tryz.prog 262 [.ag (ar e.row)] [] fun r _=>r=vi (kP e):=by
 obtain⟨kind,op,not,val,qual,name,kids,sub⟩:=e
 rw[Expr.row_mk,kP,Expr.kind,Expr.op]
 refine ai ac false Tryz.func262 rfl ae ?_
 simp only[Tryz.f262,tt,seval]
 all_goals repeat' first|(refine ab (fun h=>?_) (fun h=>?_)<;>try simp only[tt,seval])|(intro _;try simp only[tt,seval])
 all_goals first|contradiction|exact⟨_,_,iU (by unfold lv;(repeat' split)<;>omega),ap rfl⟩|skip
 have h4:kind=4:=by assumption
 refine cZ (dA op 1 14) ?_ ?_<;>simp only[tt,seval]
 refine ab (fun hc=>?_) (fun hc=>?_)
 ·have hc:1<=op/\op<=14:=by simpa only[decide_eq_true_eq] using hc
  have hlt:op.toNat<Jr.length:=by show _<15;omega
  refine⟨aa,aa,?_⟩
  rw[Er,aH vx (aD hlt)]
  simp only[tt,seval,irow]
  exact⟨_,_,iU (by rw[lv,if_pos h4];exact (Eu ⟨op.toNat,hlt⟩ (by show 1<=op.toNat;omega)).trans (congrArg bl (Int.toNat_of_nonneg (show 0<=op by omega)))),ap rfl⟩
 ·exact⟨_,_,iU (by rw[lv,if_pos h4];unfold bl;have:¬(1<=op/\op<=14):=(by simpa only[decide_eq_false_iff_not,decide_eq_true_eq] using hc);(repeat' split)<;>omega),ap rfl⟩
theorem Ev (kind op:Int) (not:Bool) (val:Val) (qual name:ByteArray) (kids:List Expr) (sub:List Query) (k:Nat) (hk:k<kids.length):Cl Tryz.prog 307 [.ag (ar (Expr.mk kind op not val qual name kids sub).row),vi k] [] fun r _=>r=vi (nd kind op k):=by
 rw[Expr.row_mk]
 refine ai ac false Tryz.func307 rfl ae ?_
 simp only[Tryz.f307,tt,seval]
 refine cZ (mi (Expr.mk kind op not val qual name kids sub)) ?_ ?_<;>simp only[tt,seval,Expr.row_mk,kP,Expr.kind,Expr.op]
 have hb:=mh kind op
 refine fun hlen=>?_
 rw[ax (n:=(kids.length:Int)-1) aa aa]
 refine cZ (dA k 0 (kids.length-1)) ?_ ?_<;>simp only[tt,seval]
 simp only[tt,seval,az (show (0:Int)<=k/\(k:Int)<=(kids.length:Int)-1 by omega)]
 by_cases l0:lv kind op=0
 ·simp only[tt,seval,az l0]
  exact⟨_,_,iU (by rw[nd,if_pos (Or.inl l0)]),ap rfl⟩
 simp only[tt,seval,au l0]
 refine ab (fun l9=>?_) (fun l9=>?_)
 ·exact⟨_,_,iU (by rw[nd,if_pos (Or.inr l9)]),ap rfl⟩
 have e:nd kind op k=if kind=4 then (if lv kind op=4 then 5 else if k=0 then lv kind op else lv kind op+1) else if kind=3 then lv kind op else if kind=7/\0<k then 1 else 5:=by rw[nd,if_neg aa]
 rw[e,ax (n:=lv kind op+1) aa aa]
 all_goals repeat' first|(refine ab (fun h=>?_) (fun h=>?_)<;>try simp only[tt,seval])|(intro _;try simp only[tt,seval])
 all_goals first|contradiction|exact⟨_,_,iU (by (repeat' split)<;>omega),ap rfl⟩
theorem BQ (kind op:Int) (not:Bool) (val:Val) (qual name:ByteArray) (kids:List Expr) (sub:List Query) (k:Nat) (hk:k<kids.length):Cl Tryz.prog 317 [.ag (ar (Expr.mk kind op not val qual name kids sub).row),vi k] [] fun r _=>r=vi (nd kind op k):=by
 rw[Expr.row_mk]
 refine ai ac false Tryz.func317 rfl ae ?_
 simp only[Tryz.f317,tt,seval]
 refine cZ (mS (Expr.mk kind op not val qual name kids sub)) ?_ ?_<;>simp only[tt,seval,Expr.row_mk,kP,Expr.kind,Expr.op]
 have hb:=mh kind op
 simp only[tt,seval,au (show ¬(k:Int)<0 by omega)]
 refine fun hlen=>?_
 simp only[tt,seval,au (show ¬(kids.length:Int)<=k by omega)]
 by_cases l0:lv kind op=0
 ·simp only[tt,seval,az l0]
  exact⟨_,_,iU (by rw[nd,if_pos (Or.inl l0)]),ap rfl⟩
 simp only[tt,seval,au l0]
 refine ab (fun l9=>?_) (fun l9=>?_)
 ·exact⟨_,_,iU (by rw[nd,if_pos (Or.inr l9)]),ap rfl⟩
 have e:nd kind op k=if kind=4 then (if lv kind op=4 then 5 else if k=0 then lv kind op else lv kind op+1) else if kind=3 then lv kind op else if kind=7/\0<k then 1 else 5:=by rw[nd,if_neg aa]
 rw[e]
 all_goals repeat' first|(refine ab (fun h=>?_) (fun h=>?_)<;>try simp only[tt,seval])|(intro _;try simp only[tt,seval])
 all_goals try rw[ax (n:=lv kind op+(if (1:Int)<k then 1 else (k:Int))) (by split<;>omega) (by split<;>omega)]
 all_goals first|contradiction|exact⟨_,_,iU (by (repeat' split)<;>omega),ap rfl⟩
theorem AB (kind op:Int) (not:Bool) (val:Val) (qual name:ByteArray) (kids:List Expr) (sub:List Query) (k:Nat) (hk:k<kids.length):Cl Tryz.prog 261 [.ag (ar (Expr.mk kind op not val qual name kids sub).row),vi k] [] fun r _=>r=vb (kE kind op kids k):=by
 rw[Expr.row_mk]
 refine ai ac false Tryz.func261 rfl ae ?_
 simp only[Tryz.f261,tt,seval]
 refine dDrawn.intro [] (j3 [0,2,4,6,8,11,12,14,16,18,20,22,26,28,25,31,32,34,36]) ae ?_
 simp only[tt,seval]
 refine fun hlen=>?_
 rw[ax (n:=(kids.length:Int)-1) aa aa]
 refine cZ (dA k 0 (kids.length-1)) ?_ ?_<;>simp only[tt,seval]
 simp only[tt,seval,az (show (0:Int)<=k/\(k:Int)<=(kids.length:Int)-1 by omega)]
 refine⟨aa,aa,_,aH Expr.row_len (aD hk),Expr.ne _ _,?_⟩
 simp only[seval,Expr.tk,Expr.row_len]
 refine cZ (mi kids[k]) ?_ ?_<;>simp only[tt,seval]
 refine cZ (Ev kind op not val qual name kids sub k hk) ?_ ?_<;>simp only[tt,seval,Expr.row_mk]
 exact⟨_,_,aU (by rw[kE,List.getD_eq_getElem?_getD,aD hk];rfl),ap rfl⟩
theorem xL (kind op:Int) (not:Bool) (val:Val) (qual name:ByteArray) (kids:List Expr) (sub:List Query) (k:Nat) (hk:k<kids.length):Cl Tryz.prog 277 [.ag (ar (Expr.mk kind op not val qual name kids sub).row),vi k] [] fun r _=>r=vb (kE kind op kids k):=by
 rw[Expr.row_mk]
 refine ai ac false Tryz.func277 rfl ae ?_
 simp only[Tryz.f277,tt,seval]
 refine dDrawn.intro [] (j3 [0,2,4,6,8,10,12,14,16,18,20,22,24,26,28,32,34,31,37,38,40,42]) ae ?_
 simp only[tt,seval]
 simp only[tt,seval,az (show (0:Int)<=k by omega)]
 refine fun hlen=>?_
 simp only[tt,seval,az (show (k:Int)<kids.length by omega)]
 refine⟨aa,aa,_,aH Expr.row_len (aD hk),Expr.ne _ _,?_⟩
 simp only[seval,Expr.tk,Expr.row_len]
 refine cZ (mS kids[k]) ?_ ?_<;>simp only[tt,seval]
 refine cZ (BQ kind op not val qual name kids sub k hk) ?_ ?_<;>simp only[tt,seval,Expr.row_mk]
 exact⟨_,_,aU (by rw[kE,List.getD_eq_getElem?_getD,aD hk];rfl),ap rfl⟩
end Go.Proofs.YtbodcedhmccenaaGreatDoor
namespace Go.Cv
open Go Go.RowKit Go.Dv
open Go.Vc (j8 bC ei vis b9 CellF RowF ValsF D inN okV bi df ky aM TS sizeTS dG an gy cz oK qv eh bG mb kz fh inN inN_iff Plan dsts dstsOps Ar iI)
abbrev K1:=Rg->World->Prop
structure Gr (w w':World):Prop where
 size:w.heap.size<=w'.heap.size
 keep:∀b,b<w.heap.size->w'.heap[b]?=w.heap[b]?
 os:w'.os=w.os
 tape:w'.tape=w.tape
 output:w'.output=w.output
end Go.Cv
namespace Go.Cv
open Go Go.RowKit Go.Dv
open Go.Vc (vis b9 CellF RowF ValsF D okV Ar Grow cz bi)
def Res (P:Program) (w w':World) (r:S) (v:Value):Prop:=
 ∃ β ok,RelS P w' β ok (expS 9700 r) v/\(∀b,ok b -> ¬ownB (back r []) β b)/\(∀i o,Go.Dv.look (back r []) i=some o->RelO P w' β ok i o)/\(∀b,ownB (back r []) β b->w.heap.size<=b) /\
  (fps r []).flatten.Nodup/\(∀b∈(fps r []).flatten,w.heap.size<=b/\∃cs t lh,w'.heap[b]?=some (.cells cs t lh)/\Lh cs.size lh)
section
variable {P:Program} {w w':World}
theorem Cl.at {g:FuncId} {args:List S} {R:S->List (List C)->Prop} (h:Cl P g args [] R) (hp:bL (args.flatMap bq)=true) {vs:List Value}
 (hv:RelA P w (fun _=>none) (fun _=>True) args vs) (hg:GlW w (fun _=>False)) :
 bi P g=true/\Calls P g vs.toArray w fun e w'=>∃v,e = .returned v/\∃r,R r []/\Gr w w'/\Res P w w' r v:=by
 obtain⟨e1,e2⟩:=nq 9500 hp
 have el:lent args []=[]:=by simp [lent,e2,iA]
 have hno:∀ β b,¬ownB [] β b:=fun β b ⟨i,o,h1,_⟩=>by simp [Go.Dv.look] at h1
 have hok:s9 (fun _=>True) (lent args []) (fun _=>none)=fun _=>True:=by
  funext b
  simp [s9,el,hno]
 refine⟨h.1,(h.2 w (fun _=>none) (fun _=>True) vs ?_ ?_ ?_).mono ?_⟩
 ·rw[e1,hok];exact hv
 ·rw[el];exact⟨fun i o hl=>by simp [Go.Dv.look] at hl,fun i j o o' b hl=>by simp [Go.Dv.look] at hl⟩
 ·exact hg.mono (fun _ _ _=>rfl) fun b hb _=>by rw[el] at hb;exact (hno _ _ hb).elim
 ·rintro e W' ⟨v,r,objs,β,rfl,hR,hP⟩
  have ho:objs=[]:=List.eq_nil_of_length_eq_zero (by simpa using hP.len)
  subst ho
  refine⟨v,rfl,r,hR,⟨hP.tr.size,fun b hb=>hP.tr.keep b hb (by rw[el];exact hno _ b),hP.outer.1,hP.outer.2.1,hP.outer.2.2⟩,β,_,hP.rel,fun b hb=>hb.1,hP.obs.rel,fun b hb=>?_,hP.fresh.1,fun b hb=>?_⟩
  ·by_cases hlt:b<w.heap.size
   ·have:=hP.tr.own b hlt hb
    rw[el] at this;exact (hno _ _ this).elim
   ·omega
  ·obtain⟨h1,h2,_⟩:=hP.fresh.2 b hb
   refine⟨h1.elim id fun h=>?_,h2⟩
   rw[el] at h;exact (hno _ _ h).elim
theorem Res.val {x v:Value} (h:Res P w w' (.c (.v x)) v):v=x:=by
 obtain⟨β,ok,h,_⟩:=h
 exact h.1
end
def aG:List D->List (List (List Nat))->List C
 |.lit v::r,Fs=>.v v::aG r Fs
 |.sl n ds::r,F::Fs=>.sl n ds (some F)::aG r Fs
 |.sl n ds::r,[]=>.sl n ds none::aG r []
 | [],_=>[]
theorem nJ {F G:List Nat} (h:∀x,F.count x<=G.count x):Sb F G:=h
end Go.Cv
set_option maxRecDepth 8000
namespace Go.Proofs.YtbodcedhmccenaaGreatDoor
open Go Go.Dv
open Go.Vc (D dg dh cX bk)
mutual
inductive ERow where
 |mk (l:List Expr)
end
mutual
def ERow.row:ERow->List D
 |.mk l=>.sl l.length (l.flatMap Expr.row)::[]
end
theorem ERow.row_mk (l:List Expr):(ERow.mk l).row = .sl l.length (l.flatMap Expr.row)::[]:=by rw[ERow.row]
mutual
inductive Stmt where
 |mk (kind:Int) (query:Query) (table:ByteArray) (rows:List ERow) (cols:List ByteArray) (sets:List Expr) (where_:List Expr)
end
mutual
def Stmt.row:Stmt->List D
 |.mk kind query table rows cols sets where_=>int kind::(query.row++str table :: .sl rows.length (rows.flatMap ERow.row) :: .sl cols.length (cols.flatMap srow) :: .sl sets.length (sets.flatMap Expr.row) :: .sl where_.length (where_.flatMap Expr.row)::[])
end
theorem Stmt.row_mk (kind:Int) (query:Query) (table:ByteArray) (rows:List ERow) (cols:List ByteArray) (sets:List Expr) (where_:List Expr):(Stmt.mk kind query table rows cols sets where_).row=int kind::(query.row++str table :: .sl rows.length (rows.flatMap ERow.row) :: .sl cols.length (cols.flatMap srow) :: .sl sets.length (sets.flatMap Expr.row) :: .sl where_.length (where_.flatMap Expr.row)::[]):=by rw[Stmt.row]
end Go.Proofs.YtbodcedhmccenaaGreatDoor
set_option maxRecDepth 8000
namespace Go.Proofs.YtbodcedhmccenaaGreatDoor
open Go Go.Dv
open Go.Vc (D dg dh cX bk)
open Go.Cv
open Go.Vc (CellF ValsF bi)
section
variable {α:Type} (f:Int->α->α) (c:α->Nat)
def fY:List α->Nat
 | []=>0
 |e::es=>c e+fY es
theorem qe:∀(es fs:List α),fY c (es++fs)=fY c es+fY c fs
 | [],fs=>by simp [fY]
 |e::es,fs=>by simp [fY,qe es fs];omega
end
end Go.Proofs.YtbodcedhmccenaaGreatDoor
set_option maxRecDepth 8000
namespace Go.Proofs.YtbodcedhmccenaaGreatDoor
open Go Go.Dv
open Go.Vc (D dg dh cX bk)
theorem vy {α:Type} {row:α->List D} {w:Nat} {l r:List α} {x:α} (h:l=x::r) (hl:∀x,(row x).length=w+1) (C:List D->Prop):(∃ds',l.flatMap row=ds' /\ ¬ds'=[]/\C ds')=C (row x++r.flatMap row):=by
 subst h
 rw[List.flatMap_cons]
 exact propext ⟨fun ⟨_,h1,_,h3⟩=>h1▸h3,fun h=>⟨_,rfl,fun h0=>by have:=congrArg List.length h0;rw[aC,hl] at this;simp at this,h⟩⟩
theorem cT {α:Type} {row:α->List D} {w:Nat} {l:List α} {i:Nat} {x:α} (hx:l[i]?=some x) (hl:∀x,(row x).length=w+1) (C:List D->Prop):(∃ds',(l.flatMap row).drop (i*(w+1))=ds' /\ ¬ds'=[]/\C ds')=C (row x++(l.drop (i+1)).flatMap row):=by
 rw[aH hl hx]
 exact propext ⟨fun ⟨_,h1,_,h3⟩=>h1▸h3,fun h=>⟨_,rfl,fun h0=>by have:=congrArg List.length h0;rw[aC,hl] at this;simp at this,h⟩⟩
theorem BR {p:Prop} (h:p:=by (try refine⟨by omega,?_⟩);exact nJ fun x=>by (try simp only[List.count_nil]);omega):p:=h
theorem Js {p:Prop} (h:p:=by (try refine⟨by omega,?_⟩);exact nJ fun x=>by (try simp only[List.flatten_append,List.count_append,List.count_nil]);omega):p:=h
theorem mT {p:Prop} (h:p:=by (try refine⟨by omega,?_⟩);exact nJ fun x=>by (try simp only[List.flatten_append,List.count_append]);omega):p:=h
theorem K7 {p:Prop} (h:p:=by (try refine⟨by omega,?_⟩);exact nJ fun x=>by (try simp only[List.flatten_append,List.flatten_cons,List.count_append]);omega):p:=h
theorem ID {p:Prop} (h:p:=by (try refine⟨by omega,?_⟩);exact nJ fun x=>by (try simp only[fb]);omega):p:=h
theorem al:type_of% @Expr.row_mk:=@Expr.row_mk
theorem aF:type_of% @Query.row_mk:=@Query.row_mk
theorem aQ:type_of% @Expr.row_len:=@Expr.row_len
theorem cY:type_of% @Tok.row_len:=@Tok.row_len
end Go.Proofs.YtbodcedhmccenaaGreatDoor
