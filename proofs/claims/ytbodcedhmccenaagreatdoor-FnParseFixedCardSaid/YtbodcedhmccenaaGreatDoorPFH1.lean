/-
  Parsing texts of expressions.
  Conditions: none.
-/
import Derived.Test.YtbodcedhmccenaaGreatDoorPFC2
import Derived.Test.YtbodcedhmccenaaGreatDoorPFD2
import Derived.Test.YtbodcedhmccenaaGreatDoorPFE
import Derived.Test.YtbodcedhmccenaaGreatDoorPFG
set_option linter.unusedVariables false
set_option linter.unusedSimpArgs false
set_option linter.unusedSectionVars false
set_option maxRecDepth 8000
namespace Go.Proofs.YtbodcedhmccenaaGreatDoor
open Go Go.Dv
open Go.Vc (D dg dh cX bk)
theorem lY {s:ByteArray} {L:List Tok} (h:fJ s = .inl L):L.length<=2000/\∀t∈L,aJ t=true:=by
 unfold fJ at h
 split at h
 ·cases h
 ·obtain⟨rr,hrr⟩:=qg (B:=s.data.toList) (s.data.toList.length+1) 0 [] aa aa
  rw[hrr] at h
  have h:rr = .inl L:=h
  subst h
  have:=sY aa hrr (fun t ht=>by cases ht)
  rw[aE] at this
  simp only[List.length_nil] at this
  exact⟨aa,this.1⟩
def qb (L:List Tok) (n:Nat) (i:Int):Int:=if i<L.length then (L.getD i.toNat ⟨0,z0,0⟩).at_ else n
def rI (L:List Tok) (n:Nat) (i:Int) (ok:Bool):Int×Int:=if 0<=i then (2,qb L n i) else if ok=true then (0,0) else (3,0)
def jj {α:Type} (z:α) (take:List Tok->α×Int) (ok:α->Bool) (s:ByteArray):α×(Int×Int):=match fJ s with
 |.inr p=>(z,(1,p))
 |.inl L=>(if 0<=(take L).2 then z else if ok (take L).1=true then (take L).1 else z,rI L s.size (take L).2 (ok (take L).1))
def gX (f:Int×Int):List C:=[.v (.int .i64 f.1),.v (.int .i64 f.2)]
theorem yy (L:List Tok) (hL:L.length<=1048576) (hT:∀t∈L,t.text.size<=1048576) (i:Int) (h0:0<=i) (s:ByteArray):Cl Tryz.prog 72 [.c (.sl L.length (L.flatMap Tok.row) none),vi i,vs s] [] fun r _=>r = .ag (gX (2,qb L s.size i)):=by
 obtain⟨j,rfl⟩:∃j:Nat,i=j:=⟨i.toNat,aa⟩
 refine ai ac false Tryz.func72 rfl ae ?_
 simp only[Tryz.f72,tt,seval]
 refine fun _=>ab (fun hlt=>?_) (fun hge=>?_)
 ·have hl:j<L.length:=by omega
  have hx:L[j]?=some L[j]:=aD hl
  have e:qb L s.size j=(L[j]).at_:=by
   unfold qb
   rw[if_pos hlt,Int.toNat_natCast,List.getD_eq_getElem?_getD,hx];rfl
  have i0:((0:Int)<=(j:Int))=True:=eq_true aa
  have iL:((j:Int)<(L.length:Int))=True:=eq_true hlt
  have iT:(j<L.length)=True:=eq_true hl
  rw[e]
  generalize L[j]=tk at *
  simp only[tt,seval,cT hx cY,i0,iL,Tok.row]
  refine⟨.ag (gX (2,tk.at_)),[],rfl,am ?_⟩
  simp only[tt,seval,gX]
 ·have e:qb L s.size j=s.size:=by unfold qb;rw[if_neg hge]
  rw[e]
  refine fun _=>?_
  refine⟨.ag (gX (2,(s.size:Nat))),[],rfl,am ?_⟩
  simp only[tt,seval,gX]
end Go.Proofs.YtbodcedhmccenaaGreatDoor
set_option maxRecDepth 8000
namespace Go.Proofs.YtbodcedhmccenaaGreatDoor
open Go Go.Dv Go.Cv
open Go.Vc (D dg dh cX bk)
theorem Du {L:List Tok} {α:Type} (z x:α) (s:PS) (ha:s.a<=L.length):((f7 L z (some (x,s))).2 = -1∨0<=(f7 L z (some (x,s))).2)/\(f7 L z (some (x,s))).2<=L.length:=by
 unfold f7
 simp only
 split
 ·rename_i h
  refine⟨.inr h,?_⟩
  show kf L s<=_
  unfold kf
  split<;>omega
 ·exact⟨.inl rfl,by show (-1:Int)<=_;omega⟩
theorem Dw {L:List Tok}:((bI L).2 = -1∨0<=(bI L).2)/\(bI L).2<=L.length:=by
 obtain⟨x,s,h⟩:=jw (L:=L) s0
 have ha:=(mj (L:=L) _ _ _ h).2.1 (Nat.zero_le _)
 unfold bI
 rw[h];exact Du _ _ _ ha
end Go.Proofs.YtbodcedhmccenaaGreatDoor
