/-
  The program's printer.
  Conditions: none.
-/
import Derived.Test.YtoegnikpokgbfaaGreatDoorMIJ1
set_option linter.unusedVariables false
set_option linter.unusedSimpArgs false
set_option linter.unusedSectionVars false
set_option linter.unnecessarySimpa false
set_option maxRecDepth 8000
namespace Go.Proofs.YtoegnikpokgbfaaGreatDoor
open Go Go.Dv
open Go.Vc (D cF cG cv aX)
open Go.RowKit (Below)
def iA (fn:FuncId) (args:List S) (full:Bool) (l:List Tok):Prop:=∀out:List Tok,out.length+l.length<=1000000->Cl Tryz.prog fn (.c (.p 9000 0)::args) [[.ow 61 (out).length ((out).flatMap Tok.row) none,.v (.bool full)]] fun r os=>r = .tu []/\os=[[.ow 61 (out++l).length ((out++l).flatMap Tok.row) none,.v (.bool full)]]
theorem re (full:Bool) (k:Int) (s:ByteArray):iA 141 [vi k,vs s] full ([(Tok.mk k s 0)]):=by
 intro out hroom
 simp only[ll] at hroom
 refine am ah false Tryz.func141 rfl ac ?_
 simp only[Tryz.f141,tt,seval]
 refine Jn ?_
 rw[HJ (out),yP (out) (Tok.mk k s 0)]
 refine⟨.tu [],_,⟨rfl,iX (l:=out++[(Tok.mk k s 0)]) (by rfl)⟩,au ?_⟩
 simp only[tt,seval]
theorem lP (full:Bool) (s:ByteArray):iA 80 [vs s] full ([nT s]):=by
 intro out hroom
 simp only[ll] at hroom
 refine am ah false Tryz.func80 rfl ac ?_
 simp only[Tryz.f80,tt,seval]
 refine cS (re full 2 s out aw) ?_ ?_<;>simp only[tt,seval]
 refine⟨.tu [],_,⟨rfl,iX (l:=out++[(Tok.mk 2 s 0)]) (by rfl)⟩,au ?_⟩
 simp only[tt,seval]
theorem fV (full:Bool) (s:ByteArray):iA 86 [vs s] full ([gT s]):=by
 intro out hroom
 simp only[ll] at hroom
 refine am ah false Tryz.func86 rfl ac ?_
 simp only[Tryz.f86,tt,seval]
 refine cS (re full 5 s out aw) ?_ ?_<;>simp only[tt,seval]
 refine⟨.tu [],_,⟨rfl,iX (l:=out++[(Tok.mk 5 s 0)]) (by rfl)⟩,au ?_⟩
 simp only[tt,seval]
theorem jm (full:Bool) (i:Nat):iA 87 [vi i] full (jB i):=by
 intro out hroom
 refine am ah false Tryz.func87 rfl ac ?_
 simp only[Tryz.f87,tt,seval]
 refine ab (fun hc=>?_) (fun hc=>?_)
 ·rw[jB,if_pos aa] at hroom ⊢
  simp only[ll] at hroom
  refine cS (fV full ⟨#[44]⟩ out aw) ?_ ?_<;>simp only[tt,seval]
  refine⟨.tu [],_,⟨rfl,iX (l:=out++[gT ⟨#[44]⟩]) (by rfl)⟩,au ?_⟩
  simp only[tt,seval]
 ·rw[jB,if_neg aa] at hroom ⊢
  simp only[tt,seval]
  refine⟨.tu [],_,⟨rfl,iX (l:=out) (by first|rfl|exact (List.append_nil _).symm)⟩,au ?_⟩
  simp only[tt,seval]
theorem xG (w:ByteArray) (l:List ByteArray) (hw:w.size<=1000) (hl:l≠[]) (hs:∀s∈l,s.size<=1000) (hn:l.length<=1000) (h1:Lib.splitB ⟨#[32]⟩ 0 (Lib.countB w ⟨#[32]⟩) w=l) (h2:Lib.countB w ⟨#[32]⟩+1=l.length):Cl Tryz.prog 145 [vs w,vs ⟨#[32]⟩] [] fun r _=>r = .c (.sl l.length (l.flatMap srow) none):=
 Cl.ofNew ac [.string w,.string ⟨#[32]⟩] fun w0 hg=>by
  obtain⟨m,hm⟩:=uO hg
  refine (Any.strings_Split Tryz.lays146 ac w ⟨#[32]⟩ m w0 aa hm ae).mono ?_
  rintro e w' ⟨rfl,rfl⟩
  rw[h1,h2]
  refine⟨_,_,rfl,rfl,by rfl,fun β=>qG w0 _ _ l hl (fun s hs'=>Nat.le_trans (hs s hs') ae) (Nat.le_trans hn ae) β (Go.heap_alloc_new w0 _),⟨rfl,rfl,rfl,by simp,fun i hi=>Go.heap_alloc_old w0 _ hi⟩⟩
def wT (s:ByteArray):Tok:=⟨1,s,0⟩
theorem B1 (full:Bool) (w:ByteArray) (l:List ByteArray) (hll:l.length<=1000) (hsp:Cl Tryz.prog 145 [vs w,vs ⟨#[32]⟩] [] fun r _=>r = .c (.sl l.length (l.flatMap srow) none)):iA 83 [vs w] full (l.map wT):=by
 intro out hroom
 rw[List.length_map] at hroom
 refine am ah false Tryz.func83 rfl ac ?_
 simp only[Tryz.f83,tt,seval]
 refine cZ (hsp) ?_ ?_<;>simp only[tt,seval]
 refine fun _=>?_
 refine dLoop.gh [.ren 9200 10000015] ⟨ae,ae,?_⟩
 refine dLoop0.intro (fun f L p=>∃(i:Nat) (es:List Tok),f 9=vi i/\i<=l.length/\es=out++(l.take i).map wT/\L=[(9000,.str [.s 10000015 (es).length,.v (.bool full)]),(10000015,.arr 61 (es).length ((es).flatMap Tok.row) none)]/\p=none) (fun f _ _=>(l.length-eO (f 9)).toNat) [(9000,.str [.s 10000015 (out).length,.v (.bool full)]),(10000015,.arr 61 (out).length ((out).flatMap Tok.row) none)] none ⟨ak rfl (ak rfl (aq _)),av _,?_⟩ ?_
 ·simp only[tt,seval]
  exact⟨0,out,rfl,aa,(List.append_nil _).symm,rfl⟩
 ·rintro g' L p ⟨i,es,h9,hi,hes0,rfl,rfl⟩
  simp only[tt,seval] at h9
  simp only[tt,seval,h9,Int.ofNat_lt]
  refine ab (fun hlt=>?_) (fun hge=>?_)
  ·have hel:es.length=out.length+i:=by rw[hes0,aA,List.length_map,List.length_take];omega
   refine⟨aa,aa,_,aD jC (aC hlt),oe _ _,?_⟩
   simp only[tt,seval,srow]
   refine cS (re full 1 l[i] es (by simp only[ll];omega)) ?_ ?_<;>simp only[tt,seval,h9]
   try rw[dW i aa]
   exact⟨[(9000,.str [.s 10000015 (es++[Tok.mk 1 l[i] 0]).length,.v (.bool full)]),(10000015,.arr 61 (es++[Tok.mk 1 l[i] 0]).length ((es++[Tok.mk 1 l[i] 0]).flatMap Tok.row) none)],none,ak rfl (ak rfl (aq _)),av _,⟨i+1,es++[Tok.mk 1 l[i] 0],rfl,aa,by rw[hes0,List.take_succ_eq_append_getElem hlt,List.map_append,bw];rfl,rfl,rfl⟩,aE⟩
  ·have hie:i=l.length:=by omega
   subst hie
   rw[List.take_length] at hes0
   subst hes0
   refine⟨.tu [],_,⟨rfl,iX (l:=out++l.map wT) (by rfl)⟩,au ?_⟩
   simp only[tt,seval]
theorem B2:∀k:Fin 29,1<=k.1->Lib.splitB ⟨#[32]⟩ 0 (Lib.countB (kw k.1) ⟨#[32]⟩) (kw k.1)=[kw k.1]/\Lib.countB (kw k.1) ⟨#[32]⟩=0:=by decide +kernel
theorem dr (full:Bool) (k:Nat) (h1:1<=k) (h2:k<=28):iA 83 [vs (kw k)] full ([kT k]):=by
 obtain⟨a,b⟩:=B2 ⟨k,aa⟩ h1
 have:=uk k
 exact B1 full (kw k) [kw k] (by simp) (xG (kw k) [kw k] aa (by simp) (fun s hs=>by rw[List.mem_singleton.1 hs];omega) (by simp) a (by rw[b];rfl))
theorem B3 (full:Bool):iA 83 [vs ⟨#[79,82,68,69,82,32,66,89]⟩] full ([kT 7,kT 8]):=B1 full ⟨#[79,82,68,69,82,32,66,89]⟩ [kw 7,kw 8] ae (xG ⟨#[79,82,68,69,82,32,66,89]⟩ [kw 7,kw 8] ae ae ae ae (by decide +kernel) (by decide +kernel))
theorem CN (full:Bool):iA 83 [vs ⟨#[83,69,76,69,67,84]⟩] full ([kT 1]):=dr full 1 ae ae
theorem yQ (full:Bool):iA 83 [vs ⟨#[68,73,83,84,73,78,67,84]⟩] full ([kT 2]):=dr full 2 ae ae
theorem GT (full:Bool):iA 83 [vs ⟨#[70,82,79,77]⟩] full ([kT 3]):=dr full 3 ae ae
theorem GU (full:Bool):iA 83 [vs ⟨#[74,79,73,78]⟩] full ([kT 4]):=dr full 4 ae ae
theorem IH (full:Bool):iA 83 [vs ⟨#[79,78]⟩] full ([kT 5]):=dr full 5 ae ae
theorem F5 (full:Bool):iA 83 [vs ⟨#[87,72,69,82,69]⟩] full ([kT 6]):=dr full 6 ae ae
theorem DE (full:Bool):iA 83 [vs ⟨#[68,69,83,67]⟩] full ([kT 10]):=dr full 10 ae ae
theorem F7 (full:Bool):iA 83 [vs ⟨#[76,73,77,73,84]⟩] full ([kT 11]):=dr full 11 ae ae
theorem Jp (full:Bool):iA 83 [vs ⟨#[65,83]⟩] full ([kT 12]):=dr full 12 ae ae
theorem GV (full:Bool):iA 83 [vs ⟨#[65,78,68]⟩] full ([kT 13]):=dr full 13 ae ae
theorem Jq (full:Bool):iA 83 [vs ⟨#[79,82]⟩] full ([kT 14]):=dr full 14 ae ae
theorem GX (full:Bool):iA 83 [vs ⟨#[78,79,84]⟩] full ([kT 15]):=dr full 15 ae ae
theorem Jr (full:Bool):iA 83 [vs ⟨#[73,83]⟩] full ([kT 16]):=dr full 16 ae ae
theorem II (full:Bool):iA 83 [vs ⟨#[73,78]⟩] full ([kT 17]):=dr full 17 ae ae
theorem B4 (full:Bool):iA 83 [vs ⟨#[66,69,84,87,69,69,78]⟩] full ([kT 18]):=dr full 18 ae ae
theorem CO (full:Bool):iA 83 [vs ⟨#[69,88,73,83,84,83]⟩] full ([kT 19]):=dr full 19 ae ae
theorem GY (full:Bool):iA 83 [vs ⟨#[78,85,76,76]⟩] full ([kT 20]):=dr full 20 ae ae
end Go.Proofs.YtoegnikpokgbfaaGreatDoor
set_option maxRecDepth 8000
namespace Go.Proofs.YtoegnikpokgbfaaGreatDoor
open Go Go.Dv
open Go.Vc (D cF cG cv aX)
theorem xH (full is:Bool):iA 85 [vb is] full (cm is):=by
 intro out hroom
 cases is
 case true=>
  have hroom:out.length+([kT 15]:List Tok).length<=1000000:=hroom
  refine am ah false Tryz.func85 rfl ac ?_
  simp only[Tryz.f85,tt,seval]
  refine cS (GX full out hroom) ?_ ?_<;>simp only[tt,seval]
  refine⟨.tu [],_,⟨rfl,iX (l:=out++[kT 15]) (by rfl)⟩,au ?_⟩
  simp only[tt,seval]
 case false=>
  refine am ah false Tryz.func85 rfl ac ?_
  simp only[Tryz.f85,tt,seval]
  refine⟨.tu [],_,⟨rfl,iX (l:=out) (by exact (List.append_nil _).symm)⟩,au ?_⟩
  simp only[tt,seval]
theorem B5 {v:Val} (h:d4 v=true) (h1:¬v.kind=1) (h2:¬v.kind=2):∃k,1<=k/\k<=28/\oK v=kw k/\gK v=kT k:=by
 have hv:=h
 unfold d4 at h
 by_cases h0:v.kind=0
 ·exact⟨20,ae,ae,by unfold oK;simp [h0,hv];rfl,by unfold gK;simp [h0]⟩
 ·rw[if_neg h0,if_neg h1,if_neg h2] at h
  by_cases h3:v.kind=3
  ·by_cases h4:v.num=1
   ·exact⟨21,ae,ae,by unfold oK;simp [h3,h4,hv];rfl,by unfold gK;simp [h3,h4]⟩
   ·exact⟨22,ae,ae,by unfold oK;simp [h3,h4,hv];rfl,by unfold gK;simp [h3,h4]⟩
  ·rw[if_neg h3] at h;cases h
theorem GZ (full:Bool) (v:Val) (h:ir v=true) (h0 : -9223372036854775808<=v.num) (h1:v.num<=9223372036854775807):iA 78 [.ag (ar v.row)] full ([gK v]):=by
 intro out hroom
 have hroom:out.length+1<=1000000:=hroom
 simp only[ir,Bool.and_eq_true,decide_eq_true_eq] at h
 rw[Val.row]
 refine am ah false Tryz.func78 rfl ac ?_
 simp only[Tryz.f78,tt,seval]
 refine ab (fun k1=>?_) (fun k1=>?_)
 ·have hl:gK v=⟨3,dX v.num,0⟩:=by rw[gK,if_pos k1];rfl
  rw[hl]
  refine cZ (kF v.num h0 h1) ?_ ?_<;>simp only[tt,seval]
  refine cS (re full 3 (dX v.num) out aw) ?_ ?_<;>simp only[tt,seval]
  refine⟨.tu [],_,⟨rfl,iX (l:=out++[(Tok.mk 3 (dX v.num) 0)]) (by rfl)⟩,au ?_⟩
  simp only[tt,seval]
 refine ab (fun k2=>?_) (fun k2=>?_)
 ·have hl:gK v=⟨4,v.text,0⟩:=by rw[gK,if_neg k1,if_pos k2]
  rw[hl]
  refine cS (re full 4 v.text out aw) ?_ ?_<;>simp only[tt,seval]
  refine⟨.tu [],_,⟨rfl,iX (l:=out++[(Tok.mk 4 v.text 0)]) (by rfl)⟩,au ?_⟩
  simp only[tt,seval]
 obtain⟨k,b1,b2,hv,hl⟩:=B5 h.1 k1 k2
 rw[hl]
 refine cZ (rx v h0 h1 aa) ?_ ?_<;>simp only[tt,seval,Val.row]
 rw[hv]
 refine cS (dr full k b1 b2 out aw) ?_ ?_<;>simp only[tt,seval]
 refine⟨.tu [],_,⟨rfl,iX (l:=out++[kT k]) (by rfl)⟩,au ?_⟩
 simp only[tt,seval]
theorem nO (full:Bool) (q:ByteArray):iA 79 [vs q] full (cC q):=by
 intro out hroom
 refine am ah false Tryz.func79 rfl ac ?_
 simp only[Tryz.f79,tt,seval]
 refine ab (fun hq=>?_) (fun hq=>?_)
 ·have hq:¬q=⟨#[]⟩:=by simpa using hq
  rw[cC,if_neg hq] at hroom ⊢
  simp only[ll] at hroom
  refine cS (lP full q out aw) ?_ ?_<;>simp only[tt,seval]
  refine cS (fV full ⟨#[46]⟩ (out++[nT q]) aw) ?_ ?_<;>simp only[tt,seval]
  refine⟨.tu [],_,⟨rfl,iX (l:=out++[nT q]++[gT ⟨#[46]⟩]) (by simp [Hl])⟩,au ?_⟩
  simp only[tt,seval]
 ·have hq:q=⟨#[]⟩:=by simpa using hq
  rw[cC,if_pos hq] at hroom ⊢
  simp only[tt,seval]
  refine⟨.tu [],_,⟨rfl,iX (l:=out) (by first|rfl|exact (List.append_nil _).symm)⟩,au ?_⟩
  simp only[tt,seval]
theorem B6 (full:Bool) (q:ByteArray):iA 208 [vs q] full (du q):=by
 intro out hroom
 refine am ah false Tryz.func208 rfl ac ?_
 simp only[Tryz.f208,tt,seval]
 refine ab (fun hq=>?_) (fun hq=>?_)
 ·have hq:¬q=⟨#[]⟩:=by simpa using hq
  rw[du,if_neg hq] at hroom ⊢
  simp only[ll] at hroom
  refine cS (Jp full out aw) ?_ ?_<;>simp only[tt,seval]
  refine cS (lP full q (out++[kT 12]) aw) ?_ ?_<;>simp only[tt,seval]
  refine⟨.tu [],_,⟨rfl,iX (l:=out++[kT 12]++[nT q]) (by simp)⟩,au ?_⟩
  simp only[tt,seval]
 ·have hq:q=⟨#[]⟩:=by simpa using hq
  rw[du,if_pos hq] at hroom ⊢
  simp only[tt,seval]
  refine⟨.tu [],_,⟨rfl,iX (l:=out) (by first|rfl|exact (List.append_nil _).symm)⟩,au ?_⟩
  simp only[tt,seval]
theorem Js:iC 1=⟨#[79,82]⟩:=rfl
theorem uL:iC 2=⟨#[65,78,68]⟩:=rfl
theorem HK:iC 15=⟨#[78,79,84]⟩:=rfl
theorem pT (full:Bool) (op:Int):iA 81 [vi op] full ([dJ op]):=by
 intro out hroom
 have hroom:out.length+1<=1000000:=hroom
 by_cases h1:op=1
 ·subst h1
  refine am ah false Tryz.func81 rfl ac ?_
  simp only[Tryz.f81,tt,seval]
  refine cZ (eR 1) ?_ ?_<;>simp only[tt,seval]
  refine cS (Jq full out aw) ?_ ?_<;>simp only[tt,seval,Js]
  refine⟨.tu [],_,⟨rfl,iX (l:=out++[kT 14]) (by rfl)⟩,au ?_⟩
  simp only[tt,seval]
 by_cases h2:op=2
 ·subst h2
  refine am ah false Tryz.func81 rfl ac ?_
  simp only[Tryz.f81,tt,seval]
  refine cZ (eR 2) ?_ ?_<;>simp only[tt,seval]
  refine cS (GV full out aw) ?_ ?_<;>simp only[tt,seval,uL]
  refine⟨.tu [],_,⟨rfl,iX (l:=out++[kT 13]) (by rfl)⟩,au ?_⟩
  simp only[tt,seval]
 by_cases h3:op=15
 ·subst h3
  refine am ah false Tryz.func81 rfl ac ?_
  simp only[Tryz.f81,tt,seval]
  refine cZ (eR 15) ?_ ?_<;>simp only[tt,seval]
  refine cS (GX full out aw) ?_ ?_<;>simp only[tt,seval,HK]
  refine⟨.tu [],_,⟨rfl,iX (l:=out++[kT 15]) (by rfl)⟩,au ?_⟩
  simp only[tt,seval]
 refine am ah false Tryz.func81 rfl ac ?_
 simp only[Tryz.f81,tt,seval]
 simp only[tt,seval,aG h1,aG h2,h3]
 refine cZ (eR op) ?_ ?_<;>simp only[tt,seval]
 refine cS (fV full (iC op) out aw) ?_ ?_<;>simp only[tt,seval]
 refine⟨.tu [],_,⟨rfl,iX (l:=out++[gT (iC op)]) (by rw[dJ,if_neg (fun h=>h.elim h1 fun h=>h.elim h2 h3)];rfl)⟩,au ?_⟩
 simp only[tt,seval]
def xI (full:Bool) (e:Expr) (l:List Tok):Prop:=iA 36 [.ag (ar e.row)] full (l)
def HL (full:Bool) (q:Query) (l:List Tok):Prop:=iA 146 [.ag (ar q.row)] full (l)
theorem DF (full:Bool) (q:Query) (l:List Tok) (h:HL full q l):iA 84 [.ag (ar q.row)] full (jj::(l++[jy])):=by
 intro out hroom
 simp only[ll] at hroom
 have h:iA 146 [.ag (ar q.row)] full (l):=h
 obtain⟨distinct,items,from_,where_,order,limit⟩:=q
 rw[bj] at h ⊢
 refine am ah false Tryz.func84 rfl ac ?_
 simp only[Tryz.f84,tt,seval]
 refine cS (fV full ⟨#[40]⟩ out aw) ?_ ?_<;>simp only[tt,seval]
 refine cS (h (out++[gT ⟨#[40]⟩]) aw) ?_ ?_<;>simp only[tt,seval]
 refine cS (fV full ⟨#[41]⟩ (out++[gT ⟨#[40]⟩]++l) aw) ?_ ?_<;>simp only[tt,seval]
 refine⟨.tu [],_,⟨rfl,iX (l:=out++[gT ⟨#[40]⟩]++l++[gT ⟨#[41]⟩]) (by simp [jj,jy])⟩,au ?_⟩
 simp only[tt,seval]
set_option maxHeartbeats 1000000 in
theorem H2 (kind op:Int) (not:Bool) (val:Val) (qual name:ByteArray) (kids:List Expr) (sub:List Query) (full:Bool) (k:Nat) (hk:k<kids.length) (l:List Tok) (hx:xI full kids[k] l):iA 82 [.ag (ar (Expr.mk kind op not val qual name kids sub).row),vi k] full (ng (DC full kind op kids k) l):=by
 intro out hroom
 obtain⟨it,bH⟩:∃it,it=kids[k]:=⟨_,rfl⟩
 have hw:(DC full kind op kids k)=(nw kind op kids k||(full&&decide (lT it<9))):=by rw[DC,List.getD_eq_getElem?_getD,aC hk,bH];rfl
 rw[hw] at hroom ⊢
 rw[<-bH] at hx
 have hx:iA 36 [.ag (ar it.row)] full (l):=hx
 have hx0:kids[k]?=some it:=by rw[bH];exact aC hk
 have i0:((0:Int)<=(k:Int))=True:=eq_true aa
 have iL:((k:Int)<(kids.length:Int))=True:=eq_true aa
 have hlb:0<=lT it/\lT it<=9:=by unfold lT;exact mG _ _
 have hlv:=lw it
 rw[ai]
 refine am ah false Tryz.func82 rfl ac ?_
 simp only[Tryz.f82,tt,seval]
 refine cZ (uY kind op not val qual name kids sub k hk) ?_ ?_<;>simp only[tt,seval,ai]
 cases hw1:nw kind op kids k
 case true=>
  rw[hw1] at hroom
  simp only[tt,seval]
  have hroom:out.length+(jj::(l++[jy])).length<=1000000:=hroom
  simp only[ll] at hroom
  refine cS (fV full ⟨#[40]⟩ out aw) ?_ ?_<;>simp only[tt,seval,iG hx0 aK,i0,iL,Expr.tk,aK]
  refine cS (hx (out++[gT ⟨#[40]⟩]) aw) ?_ ?_<;>simp only[tt,seval]
  refine cS (fV full ⟨#[41]⟩ (out++[gT ⟨#[40]⟩]++l) aw) ?_ ?_<;>simp only[tt,seval]
  refine⟨.tu [],_,⟨rfl,iX (l:=out++[gT ⟨#[40]⟩]++l++[gT ⟨#[41]⟩]) (by simp [ng,jj,jy])⟩,au ?_⟩
  simp only[tt,seval]
 case false=>
  simp only[tt,seval]
  cases full
  case false=>
   rw[hw1] at hroom
   simp only[tt,seval,iG hx0 aK,i0,iL,Expr.tk,aK]
   have hroom:out.length+l.length<=1000000:=hroom
   refine cS (hx out hroom) ?_ ?_<;>simp only[tt,seval]
   refine⟨.tu [],_,⟨rfl,iX (l:=out++l) (by rfl)⟩,au ?_⟩
   simp only[tt,seval]
  case true=>
   simp only[tt,seval,iG hx0 aK,i0,iL,Expr.tk,aK]
   refine cZ (hlv) ?_ ?_<;>simp only[tt,seval,iG hx0 aK,i0,iL,Expr.tk,aK]
   rw[hw1] at hroom
   by_cases h9:lT it=9
   ·rw[aG (show ¬lT it<9 by omega)] at hroom ⊢
    simp only[tt,seval,h9]
    have hroom:out.length+l.length<=1000000:=hroom
    refine cS (hx out hroom) ?_ ?_<;>simp only[tt,seval]
    refine⟨.tu [],_,⟨rfl,iX (l:=out++l) (by rfl)⟩,au ?_⟩
    simp only[tt,seval]
   ·rw[aF (show lT it<9 by omega)] at hroom ⊢
    simp only[tt,seval,h9]
    have hroom:out.length+(jj::(l++[jy])).length<=1000000:=hroom
    simp only[ll] at hroom
    refine cS (fV true ⟨#[40]⟩ out aw) ?_ ?_<;>simp only[tt,seval,iG hx0 aK,i0,iL,Expr.tk,aK]
    refine cS (hx (out++[gT ⟨#[40]⟩]) aw) ?_ ?_<;>simp only[tt,seval]
    refine cS (fV true ⟨#[41]⟩ (out++[gT ⟨#[40]⟩]++l) aw) ?_ ?_<;>simp only[tt,seval]
    refine⟨.tu [],_,⟨rfl,iX (l:=out++[gT ⟨#[40]⟩]++l++[gT ⟨#[41]⟩]) (by simp [ng,jj,jy])⟩,au ?_⟩
    simp only[tt,seval]
theorem CP (full:Bool) (l:List Expr) (g:Expr->List Tok) (hll:l.length<=1048576) (hg:∀x∈l,xI full x (g x)):iA 210 [.c (.sl l.length (l.flatMap Expr.row) none)] full (pQ g l):=by
 intro out hroom
 refine am ah false Tryz.func210 rfl ac ?_
 simp only[Tryz.f210,tt,seval]
 refine fun _=>?_
 rcases hL:l with _|⟨e,r⟩
 ·rw[hL] at hroom
  simp only[tt,seval]
  refine⟨.tu [],_,⟨rfl,iX (l:=out) (by exact (List.append_nil _).symm)⟩,au ?_⟩
  simp only[tt,seval]
 ·rw[<-hL]
  have hlen:l.length=r.length+1:=by rw[hL];rfl
  have hw:pQ g l=kT 6::g e:=by rw[hL];rfl
  have hx:iA 36 [.ag (ar e.row)] full (g e):=hg e (by rw[hL];simp)
  have hpos:((0:Int)<l.length)=True:=eq_true aa
  rw[hw] at hroom ⊢
  clear hw
  generalize g e=le at *
  simp only[ll] at hroom
  simp only[tt,seval,hpos]
  refine cS (F5 full out aw) ?_ ?_<;>simp only[tt,seval,hpos,DT hL aK,gp (aK e),aK]
  refine cS (hx (out++[kT 6]) aw) ?_ ?_<;>simp only[tt,seval]
  refine⟨.tu [],_,⟨rfl,iX (l:=out++[kT 6]++le) (by simp)⟩,au ?_⟩
  simp only[tt,seval]
set_option maxHeartbeats 2000000 in
theorem B7 (full:Bool) (i:Nat) (s:Source) (g:Expr->List Tok) (hll:s.on.length<=1048576) (hg:∀x∈s.on,xI full x (g x)):iA 209 [vi i,.ag (ar s.row)] full (fU g i s):=by
 intro out hroom
 obtain⟨table,as_,on⟩:=s
 have hll:on.length<=1048576:=hll
 have hg:∀x∈on,xI full x (g x):=hg
 have hol:(on.length<=9223372036854775807)=True:=eq_true aa
 rw[Source.row_mk]
 rcases hL:on with _|⟨e,r⟩
 ·have hle:uK g on=[]:=by rw[hL];rfl
  have hlen:on.length=0:=by rw[hL];rfl
  try rw[<-hL]
  have op:¬(0:Int)<on.length:=by omega
  by_cases hi0:i=0
  ·have ip:¬(0:Int)<i:=by omega
   have hsrc:fU g i (Source.mk table as_ on)=[]++(nT table::(du as_++[])):=by
    show (if 0<i then (if 0<on.length then [kT 4] else [dv]) else [])++(nT table::(du as_++uK g on))=_
    rw[hle]
    rw[if_neg aa]
   rw[hsrc] at hroom ⊢
   simp only[ll] at hroom
   refine am ah false Tryz.func209 rfl ac ?_
   simp only[Tryz.f209,tt,seval]
   simp only[tt,seval,ip]
   have hcm:jB i=[]:=if_neg aa
   have hcom:=jm full i
   rw[hcm] at hcom
   refine cS (hcom out aw) ?_ ?_<;>simp only[tt,seval]
   refine cS (lP full table (out++[]) aw) ?_ ?_<;>simp only[tt,seval]
   refine cS (B6 full as_ (out++[]++[nT table]) aw) ?_ ?_<;>simp only[tt,seval,hol,op]
   refine⟨.tu [],_,⟨rfl,iX (l:=out++[]++[nT table]++du as_) (by simp)⟩,au ?_⟩
   simp only[tt,seval]
  ·have ip:(0:Int)<i:=by omega
   have hsrc:fU g i (Source.mk table as_ on)=[dv]++(nT table::(du as_++[])):=by
    show (if 0<i then (if 0<on.length then [kT 4] else [dv]) else [])++(nT table::(du as_++uK g on))=_
    rw[hle]
    rw[if_pos aa];rw[if_neg aa]
   rw[hsrc] at hroom ⊢
   simp only[ll] at hroom
   refine am ah false Tryz.func209 rfl ac ?_
   simp only[Tryz.f209,tt,seval]
   simp only[tt,seval,hol,ip,op]
   have hcm:jB i=[dv]:=if_pos aa
   have hcom:=jm full i
   rw[hcm] at hcom
   refine cS (hcom out aw) ?_ ?_<;>simp only[tt,seval]
   refine cS (lP full table (out++[dv]) aw) ?_ ?_<;>simp only[tt,seval]
   refine cS (B6 full as_ (out++[dv]++[nT table]) aw) ?_ ?_<;>simp only[tt,seval,hol,op]
   refine⟨.tu [],_,⟨rfl,iX (l:=out++[dv]++[nT table]++du as_) (by simp)⟩,au ?_⟩
   simp only[tt,seval]
 ·have hle0:uK g on=kT 5::g e:=by rw[hL];rfl
  have hlen:on.length=r.length+1:=by rw[hL];rfl
  have hxe:iA 36 [.ag (ar e.row)] full (g e):=hg e (by rw[hL];simp)
  try rw[<-hL]
  obtain⟨le,hle1⟩:∃le,le=g e:=⟨_,rfl⟩
  have hle:uK g on=kT 5::le:=by rw[hle0,hle1]
  rw[<-hle1] at hxe
  have hpos:((0:Int)<on.length)=True:=eq_true aa
  have op:(0:Int)<on.length:=by omega
  by_cases hi0:i=0
  ·have ip:¬(0:Int)<i:=by omega
   have hsrc:fU g i (Source.mk table as_ on)=[]++(nT table::(du as_++(kT 5::le))):=by
    show (if 0<i then (if 0<on.length then [kT 4] else [dv]) else [])++(nT table::(du as_++uK g on))=_
    rw[hle]
    rw[if_neg aa]
   rw[hsrc] at hroom ⊢
   simp only[ll] at hroom
   refine am ah false Tryz.func209 rfl ac ?_
   simp only[Tryz.f209,tt,seval]
   simp only[tt,seval,ip]
   have hcm:jB i=[]:=if_neg aa
   have hcom:=jm full i
   rw[hcm] at hcom
   refine cS (hcom out aw) ?_ ?_<;>simp only[tt,seval]
   refine cS (lP full table (out++[]) aw) ?_ ?_<;>simp only[tt,seval]
   refine cS (B6 full as_ (out++[]++[nT table]) aw) ?_ ?_<;>simp only[tt,seval,hol,op]
   refine cS (IH full (out++[]++[nT table]++du as_) aw) ?_ ?_<;>simp only[tt,seval,op,DT hL aK,gp (aK e),aK]
   refine cS (hxe (out++[]++[nT table]++du as_++[kT 5]) aw) ?_ ?_<;>simp only[tt,seval]
   refine⟨.tu [],_,⟨rfl,iX (l:=out++[]++[nT table]++du as_++[kT 5]++le) (by simp)⟩,au ?_⟩
   simp only[tt,seval]
  ·have ip:(0:Int)<i:=by omega
   have hsrc:fU g i (Source.mk table as_ on)=[kT 4]++(nT table::(du as_++(kT 5::le))):=by
    show (if 0<i then (if 0<on.length then [kT 4] else [dv]) else [])++(nT table::(du as_++uK g on))=_
    rw[hle]
    rw[if_pos aa];rw[if_pos aa]
   rw[hsrc] at hroom ⊢
   simp only[ll] at hroom
   refine am ah false Tryz.func209 rfl ac ?_
   simp only[Tryz.f209,tt,seval]
   simp only[tt,seval,hol,ip,op]
   refine cS (GU full out aw) ?_ ?_<;>simp only[tt,seval]
   refine cS (lP full table (out++[kT 4]) aw) ?_ ?_<;>simp only[tt,seval]
   refine cS (B6 full as_ (out++[kT 4]++[nT table]) aw) ?_ ?_<;>simp only[tt,seval,hol,op]
   refine cS (IH full (out++[kT 4]++[nT table]++du as_) aw) ?_ ?_<;>simp only[tt,seval,op,DT hL aK,gp (aK e),aK]
   refine cS (hxe (out++[kT 4]++[nT table]++du as_++[kT 5]) aw) ?_ ?_<;>simp only[tt,seval]
   refine⟨.tu [],_,⟨rfl,iX (l:=out++[kT 4]++[nT table]++du as_++[kT 5]++le) (by simp)⟩,au ?_⟩
   simp only[tt,seval]
set_option maxHeartbeats 4000000 in
theorem yR (kind op:Int) (not:Bool) (val:Val) (qual name:ByteArray) (kids:List Expr) (sub:List Query) (full:Bool) (gf:Expr->Bool) (g:Expr->List Tok) (hf:rc gf (Expr.mk kind op not val qual name kids sub)=true) (hnum : -9223372036854775808<=val.num/\val.num<=9223372036854775807) (hg:∀x∈kids,xI full x (g x)) (hgq:∀q∈sub,HL full q (gb g q)):xI full (Expr.mk kind op not val qual name kids sub) (jz full g (Expr.mk kind op not val qual name kids sub)):=by
 intro out hroom
 have hkid:∀k (hk:k<kids.length),iA 82 [.ag (ar (Expr.mk kind op not val qual name kids sub).row),vi k] full (aN full g kind op kids k):=fun k hk out hr=>by
  rw[CM hk] at hr ⊢
  exact H2 kind op not val qual name kids sub full k hk _ (hg _ (aH hk)) out hr
 have hsp:=(kp hf).1
 clear hf hg
 rw[ai]
 rcases hY hsp with⟨rfl,hl,hk0,hs0⟩|⟨rfl,hn,hm,hk0,hs0⟩|⟨rfl,ho,hk0,hs0⟩|⟨rfl,ho,hk0,hs0⟩|⟨rfl,hk0,hs0⟩|⟨rfl,hk0,hs0⟩|⟨rfl,hk0,hs0⟩|⟨rfl,hk0,hs0⟩|⟨rfl,hk0,hs0⟩
 ·skip
  have e:jz full g (Expr.mk 1 op not val qual name kids sub)=[gK val]:=rfl
  rw[e] at hroom ⊢
  clear e
  simp only[ll] at hroom
  refine am ah false Tryz.func36 rfl ac ?_
  simp only[Tryz.f36,tt,seval]
  refine cS (GZ full val hl hnum.1 hnum.2 (out) aw) ?_ ?_<;>simp only[tt,seval,Val.row]
  refine⟨.tu [],_,⟨rfl,iX (l:=out++[gK val]) (by simp [])⟩,au ?_⟩
  simp only[tt,seval]
 ·skip
  have e:jz full g (Expr.mk 2 op not val qual name kids sub)=cC qual++[nT name]:=rfl
  rw[e] at hroom ⊢
  clear e
  simp only[ll] at hroom
  refine am ah false Tryz.func36 rfl ac ?_
  simp only[Tryz.f36,tt,seval]
  refine cS (nO full qual (out) aw) ?_ ?_<;>simp only[tt,seval]
  refine cS (lP full name (out++cC qual) aw) ?_ ?_<;>simp only[tt,seval]
  refine⟨.tu [],_,⟨rfl,iX (l:=out++cC qual++[nT name]) (by simp [bw])⟩,au ?_⟩
  simp only[tt,seval]
 ·skip
  have e:jz full g (Expr.mk 3 op not val qual name kids sub)=dJ op::aN full g 3 op kids 0:=rfl
  rw[e] at hroom ⊢
  clear e
  have hkid0:=hkid 0 aa
  generalize aN full g 3 op kids 0=a0 at *
  simp only[ll] at hroom
  refine am ah false Tryz.func36 rfl ac ?_
  simp only[Tryz.f36,tt,seval]
  refine cS (pT full op (out) aw) ?_ ?_<;>simp only[tt,seval]
  refine cS (hkid0 (out++[dJ op]) aw) ?_ ?_<;>simp only[tt,seval,ai]
  refine⟨.tu [],_,⟨rfl,iX (l:=out++[dJ op]++a0) (by simp [bw])⟩,au ?_⟩
  simp only[tt,seval]
 ·skip
  have e:jz full g (Expr.mk 4 op not val qual name kids sub)=aN full g 4 op kids 0++(dJ op::aN full g 4 op kids 1):=rfl
  rw[e] at hroom ⊢
  clear e
  have hkid0:=hkid 0 aa
  generalize aN full g 4 op kids 0=a0 at *
  have hkid1:=hkid 1 aa
  generalize aN full g 4 op kids 1=a1 at *
  simp only[ll] at hroom
  refine am ah false Tryz.func36 rfl ac ?_
  simp only[Tryz.f36,tt,seval]
  refine cS (hkid0 (out) aw) ?_ ?_<;>simp only[tt,seval,ai]
  refine cS (pT full op (out++a0) aw) ?_ ?_<;>simp only[tt,seval]
  refine cS (hkid1 (out++a0++[dJ op]) aw) ?_ ?_<;>simp only[tt,seval,ai]
  refine⟨.tu [],_,⟨rfl,iX (l:=out++a0++[dJ op]++a1) (by simp [bw])⟩,au ?_⟩
  simp only[tt,seval]
 ·skip
  have e:jz full g (Expr.mk 5 op not val qual name kids sub)=aN full g 5 op kids 0++(kT 16::(cm not++[kT 20])):=rfl
  rw[e] at hroom ⊢
  clear e
  have hkid0:=hkid 0 aa
  generalize aN full g 5 op kids 0=a0 at *
  simp only[ll] at hroom
  refine am ah false Tryz.func36 rfl ac ?_
  simp only[Tryz.f36,tt,seval]
  refine cS (hkid0 (out) aw) ?_ ?_<;>simp only[tt,seval,ai]
  refine cS (Jr full (out++a0) aw) ?_ ?_<;>simp only[tt,seval]
  refine cS (xH full not (out++a0++[kT 16]) aw) ?_ ?_<;>simp only[tt,seval]
  refine cS (GY full (out++a0++[kT 16]++cm not) aw) ?_ ?_<;>simp only[tt,seval]
  refine⟨.tu [],_,⟨rfl,iX (l:=out++a0++[kT 16]++cm not++[kT 20]) (by simp [bw])⟩,au ?_⟩
  simp only[tt,seval]
 ·skip
  have e:jz full g (Expr.mk 6 op not val qual name kids sub)=aN full g 6 op kids 0++(cm not++(kT 18::(aN full g 6 op kids 1++(kT 13::aN full g 6 op kids 2)))):=rfl
  rw[e] at hroom ⊢
  clear e
  have hkid0:=hkid 0 aa
  generalize aN full g 6 op kids 0=a0 at *
  have hkid1:=hkid 1 aa
  generalize aN full g 6 op kids 1=a1 at *
  have hkid2:=hkid 2 aa
  generalize aN full g 6 op kids 2=a2 at *
  simp only[ll] at hroom
  refine am ah false Tryz.func36 rfl ac ?_
  simp only[Tryz.f36,tt,seval]
  refine cS (hkid0 (out) aw) ?_ ?_<;>simp only[tt,seval,ai]
  refine cS (xH full not (out++a0) aw) ?_ ?_<;>simp only[tt,seval]
  refine cS (B4 full (out++a0++cm not) aw) ?_ ?_<;>simp only[tt,seval]
  refine cS (hkid1 (out++a0++cm not++[kT 18]) aw) ?_ ?_<;>simp only[tt,seval,ai]
  refine cS (GV full (out++a0++cm not++[kT 18]++a1) aw) ?_ ?_<;>simp only[tt,seval]
  refine cS (hkid2 (out++a0++cm not++[kT 18]++a1++[kT 13]) aw) ?_ ?_<;>simp only[tt,seval,ai]
  refine⟨.tu [],_,⟨rfl,iX (l:=out++a0++cm not++[kT 18]++a1++[kT 13]++a2) (by simp [bw])⟩,au ?_⟩
  simp only[tt,seval]
 ·skip
  have e:jz full g (Expr.mk 7 op not val qual name kids sub)=aN full g 7 op kids 0++(cm not++(kT 17::jj::((bB (sI full g 7 op kids) (kids.length-1))++[jy]))):=rfl
  rw[e] at hroom ⊢
  clear e
  simp only[ll] at hroom
  refine am ah false Tryz.func36 rfl ac ?_
  simp only[Tryz.f36,tt,seval]
  have hkid0:=hkid 0 aa
  obtain⟨a0,ha0⟩:∃a0,a0=aN full g 7 op kids 0:=⟨_,rfl⟩
  rw[<-ha0] at hkid0 hroom ⊢
  refine cS (hkid0 (out) aw) ?_ ?_<;>simp only[tt,seval,ai]
  refine cS (xH full not (out++a0) aw) ?_ ?_<;>simp only[tt,seval]
  refine cS (II full (out++a0++cm not) aw) ?_ ?_<;>simp only[tt,seval]
  refine cS (fV full ⟨#[40]⟩ (out++a0++cm not++[kT 17]) aw) ?_ ?_<;>simp only[tt,seval]
  obtain⟨L0,hL0⟩:∃L0,L0=out++a0++cm not++[kT 17]++[jj]:=⟨_,rfl⟩
  have hL0l:L0.length=out.length+a0.length+(cm not).length+2:=by rw[hL0];simp only[ll]
  have hgt:out++a0++cm not++[kT 17]++[gT ⟨#[40]⟩]=L0:=by rw[hL0];rfl
  rw[hgt]
  refine dLoop.gh [.ren 10000105 10000120] ⟨ae,ae,?_⟩
  refine dLoop0.intro (fun f L p=>∃(j:Nat) (es:List Tok),f 4=vi (j+1:Nat)/\j<=kids.length-1/\es=L0++bB (sI full g 7 op kids) j/\L=[(9000,.str [.s 10000120 (es).length,.v (.bool full)]),(10000120,.arr 61 (es).length ((es).flatMap Tok.row) none),(3,.str [.v (.int .i64 7),.v (.int .i64 op),.v (.bool not),.v (.int .i64 val.kind),.v (.int .i64 val.num),.v (.string val.text),.v (.string qual),.v (.string name),.sl kids.length (kids.flatMap Expr.row) none,.sl sub.length (sub.flatMap Query.row) none])]/\p=none) (fun f _ _=>(kids.length-eO (f 4)).toNat) [(9000,.str [.s 10000120 (L0).length,.v (.bool full)]),(10000120,.arr 61 (L0).length ((L0).flatMap Tok.row) none),(3,.str [.v (.int .i64 7),.v (.int .i64 op),.v (.bool not),.v (.int .i64 val.kind),.v (.int .i64 val.num),.v (.string val.text),.v (.string qual),.v (.string name),.sl kids.length (kids.flatMap Expr.row) none,.sl sub.length (sub.flatMap Query.row) none])] none ⟨ak rfl (ak rfl (ak rfl (aq _))),av _,?_⟩ ?_
  ·simp only[tt,seval]
   exact⟨0,L0,rfl,aa,(List.append_nil _).symm,rfl⟩
  ·rintro g' L p ⟨j,es,hi,hjn,hes0,rfl,rfl⟩
   simp only[tt,seval] at hi
   simp only[tt,seval,hi]
   refine fun _=>ab (fun hlt=>?_) (fun hge=>?_)
   ·have hlt:j<kids.length-1:=by omega
    have hst:=dK (sI full g 7 op kids) j
    have hlt2:=oz (sI full g 7 op kids) hlt
    have hel:es.length=L0.length+(bB (sI full g 7 op kids) j).length:=by rw[hes0,aA]
    have hfj:sI full g 7 op kids j=jB j++aN full g 7 op kids (j+1):=rfl
    rw[hfj] at hst hlt2
    simp only[ll] at hlt2
    have hkj:=hkid (j+1) aa
    generalize aN full g 7 op kids (j+1)=aj at *
    rw[aI (n:=((j+1:Nat):Int)-1) aa aa,show ((j+1:Nat):Int)-1=(j:Int) by omega]
    refine cS (jm full j es aw) ?_ ?_<;>simp only[tt,seval,hi]
    refine cS (hkj (es++jB j) aw) ?_ ?_<;>simp only[tt,seval,hi,ai]
    try rw[aI (n:=((j+1:Nat):Int)+1) aa aa]
    exact⟨[(9000,.str [.s 10000120 ((es++jB j++aj)).length,.v (.bool full)]),(10000120,.arr 61 ((es++jB j++aj)).length (((es++jB j++aj)).flatMap Tok.row) none),(3,.str [.v (.int .i64 7),.v (.int .i64 op),.v (.bool not),.v (.int .i64 val.kind),.v (.int .i64 val.num),.v (.string val.text),.v (.string qual),.v (.string name),.sl kids.length (kids.flatMap Expr.row) none,.sl sub.length (sub.flatMap Query.row) none])],none,ak rfl (ak rfl (ak rfl (aq _))),av _,⟨j+1,es++jB j++aj,rfl,aa,by rw[hst,hes0];simp [bw],rfl,rfl⟩,aE⟩
   ·have hje:j=kids.length-1:=by omega
    rw[hje] at hes0
    have hel:es.length=L0.length+(bB (sI full g 7 op kids) (kids.length-1)).length:=by rw[hes0,aA]
    refine cS (fV full ⟨#[41]⟩ es aw) ?_ ?_<;>simp only[tt,seval]
    refine⟨.tu [],_,⟨rfl,iX (l:=es++[gT ⟨#[41]⟩]) (by rw[hes0,hL0];simp [jy,bw])⟩,au ?_⟩
    simp only[tt,seval]
 ·skip
  obtain⟨q,hsub⟩:=fK hs0
  have hsl:nM g sub=gb g q:=by rw[hsub];rfl
  have hq:=hgq q (by rw[hsub];simp)
  have hpos:((0:Int)<sub.length)=True:=eq_true aa
  have e:jz full g (Expr.mk 8 op not val qual name kids sub)=aN full g 8 op kids 0++(cm not++(kT 17::jj::(nM g sub++[jy]))):=rfl
  rw[e] at hroom ⊢
  clear e
  have hkid0:=hkid 0 aa
  generalize aN full g 8 op kids 0=a0 at *
  simp only[ll] at hroom
  refine am ah false Tryz.func36 rfl ac ?_
  simp only[Tryz.f36,tt,seval]
  rw[hsl] at hroom ⊢
  refine cS (hkid0 (out) aw) ?_ ?_<;>simp only[tt,seval,ai]
  refine cS (xH full not (out++a0) aw) ?_ ?_<;>simp only[tt,seval]
  refine cS (II full (out++a0++cm not) aw) ?_ ?_<;>simp only[tt,seval,GR hsub,hpos,nc (Query.row_len q),Query.row_len]
  refine cS (DF full q (gb g q) hq (out++a0++cm not++[kT 17]) aw) ?_ ?_<;>simp only[tt,seval]
  refine⟨.tu [],_,⟨rfl,iX (l:=out++a0++cm not++[kT 17]++(jj::(gb g q++[jy]))) (by simp [bw])⟩,au ?_⟩
  simp only[tt,seval]
 ·skip
  obtain⟨q,hsub⟩:=fK hs0
  have hsl:nM g sub=gb g q:=by rw[hsub];rfl
  have hq:=hgq q (by rw[hsub];simp)
  have hpos:((0:Int)<sub.length)=True:=eq_true aa
  have e:jz full g (Expr.mk 9 op not val qual name kids sub)=kT 19::jj::(nM g sub++[jy]):=rfl
  rw[e] at hroom ⊢
  clear e
  simp only[ll] at hroom
  refine am ah false Tryz.func36 rfl ac ?_
  simp only[Tryz.f36,tt,seval]
  rw[hsl] at hroom ⊢
  refine cS (CO full (out) aw) ?_ ?_<;>simp only[tt,seval,GR hsub,hpos,nc (Query.row_len q),Query.row_len]
  refine cS (DF full q (gb g q) hq (out++[kT 19]) aw) ?_ ?_<;>simp only[tt,seval]
  refine⟨.tu [],_,⟨rfl,iX (l:=out++[kT 19]++(jj::(gb g q++[jy]))) (by simp [bw])⟩,au ?_⟩
  simp only[tt,seval]
set_option maxHeartbeats 8000000 in
theorem vX (full:Bool) (gf:Expr->Bool) (g:Expr->List Tok) (q:Query) (hf:j4 gf q=true) (hlim:q.lim<=9223372036854775807) (hsz:szQuery q<=1048576) (hg:∀x∈exprsQ q,xI full x (g x)):HL full q (gb g q):=by
 intro out hroom
 obtain⟨distinct,items,from_,where_,order,limit⟩:=q
 obtain⟨_,_,_,_,hl1,_,_,_⟩:=kq hf
 have hlim:limit<=9223372036854775807:=hlim
 rw[dy,ei,dF,aL,cU] at hsz
 have eq:exprsQ (.mk distinct items from_ where_ order limit)=aU items++from_.flatMap Source.on++where_++order.map SortKey.e:=rfl
 rw[eq] at hg
 have hgI:∀x∈items,x.star=false->xI full x.e (g x.e):=fun x hx hs=>hg _ (by
  simp only[List.mem_append,aU,List.mem_map,List.mem_filter]
  exact .inl (.inl (.inl ⟨_,⟨hx,by rw[hs];rfl⟩,rfl⟩)))
 have hgS:∀s∈from_,∀x∈s.on,xI full x (g x):=fun s hs x hx=>hg _ (by
  simp only[List.mem_append,List.mem_flatMap]
  exact .inl (.inl (.inr ⟨_,hs,hx⟩)))
 have hgW:∀x∈where_,xI full x (g x):=fun x hx=>hg _ (by simp [hx])
 have hgO:∀k∈order,xI full k.e (g k.e):=fun k hk=>hg _ (by
  simp only[List.mem_append,List.mem_map]
  exact .inr ⟨_,hk,rfl⟩)
 clear hf hg eq
 rw[bj]
 obtain⟨dl,hdl⟩:∃dl,dl=(if distinct=true then [kT 2] else []):=⟨_,rfl⟩
 have e:gb g (.mk distinct items from_ where_ order limit)=kT 1::(dl++(bB (dC g items) items.length++(kT 3::(bB (fI g from_) from_.length++(pQ g where_++(bB (fJ g order) order.length++jk limit)))))):=by rw[hdl];rfl
 rw[e] at hroom ⊢
 clear e
 simp only[ll] at hroom
 refine am ah false Tryz.func146 rfl ac ?_
 simp only[Tryz.f146,tt,seval]
 refine cS (CN full out aw) ?_ ?_<;>simp only[tt,seval]
 refine ab (fun hd=>?_) (fun hd=>?_)
 all_goals first
  | (have hd1:dl=[kT 2]:=by rw[hdl,if_pos hd]
     have hd2:dl.length=1:=by rw[hd1];rfl
     refine CallQ.intro (yQ full (out++[kT 1]) aw) ?_ ?_ ?_
     ·decide
     ·simp only[tt,seval]
     rintro r os ⟨rfl,rfl⟩ hos
     simp only[tt,seval]
     refine fun _=>?_
     rw[<-hd1]
     refine dLoop.gh [.ren 10000015 10000042] ⟨ae,ae,?_⟩)
  | (have hd1:dl=[]:=by rw[hdl,hd];rfl
     refine fun _=>?_
     rw[show out++[kT 1]=out++[kT 1]++dl by rw[hd1,List.append_nil]]
     refine dLoop.gh [.ren 10000011 10000042] ⟨ae,ae,?_⟩)
 all_goals
  obtain⟨L1,hL1⟩:∃L1,L1=out++[kT 1]++dl:=⟨_,rfl⟩
  rw[<-hL1]
  have hel1:L1.length=out.length+1+dl.length:=by rw[hL1];simp only[ll]
  refine dLoop0.introR (fun f L p=>∃(i:Nat) (es:List Tok),f 19=vi i/\i<=items.length/\es=L1++bB (dC g items) i/\L=[(9000,.str [.s 10000042 (es).length,.v (.bool full)]),(10000042,.arr 61 (es).length ((es).flatMap Tok.row) none),(3,.str [.v (.bool distinct),.sl items.length (items.flatMap Item.row) none,.sl from_.length (from_.flatMap Source.row) none,.sl where_.length (where_.flatMap Expr.row) none,.sl order.length (order.flatMap SortKey.row) none,.v (.int .i64 limit)])]/\p=none) (fun f _ _=>(items.length-eO (f 19)).toNat) [(9000,.str [.s 10000042 (L1).length,.v (.bool full)]),(10000042,.arr 61 (L1).length ((L1).flatMap Tok.row) none),(3,.str [.v (.bool distinct),.sl items.length (items.flatMap Item.row) none,.sl from_.length (from_.flatMap Source.row) none,.sl where_.length (where_.flatMap Expr.row) none,.sl order.length (order.flatMap SortKey.row) none,.v (.int .i64 limit)])] none ⟨ak rfl (ak rfl (ak rfl (aq _))),av _,?_⟩ ?_
  ·simp only[tt,seval]
   exact⟨0,L1,rfl,aa,(List.append_nil _).symm,rfl⟩
  rintro g' L p ⟨i,e1,hi19,hi,he1,rfl,rfl⟩
  simp only[tt,seval] at hi19
  simp only[tt,seval,hi19,Int.ofNat_lt]
  refine ab (fun hlt=>?_) (fun hge=>?_)
  ·have hlt:i<items.length:=by omega
   have hst:=dK (dC g items) i
   have hlt2:=oz (dC g items) hlt
   have hel:e1.length=L1.length+(bB (dC g items) i).length:=by rw[he1,aA]
   obtain⟨it,bH⟩:∃it,it=items[i]:=⟨_,rfl⟩
   have hx:items[i]?=some it:=by rw[bH];exact aC hlt
   have hmem:it∈items:=by rw[bH];exact aH hlt
   have i0:((0:Int)<=(i:Int))=True:=eq_true aa
   have iL:((i:Int)<(items.length:Int))=True:=eq_true aa
   have iT:(i<items.length)=True:=eq_true hlt
   have hgi:=hgI it hmem
   have hit2:dC g items i=jB i++df g it:=by rw[dC,ef hlt,bH]
   obtain⟨star,qual,⟨k0,o0,n0,v0,q0,m0,ks0,ss0⟩,as_⟩:=it
   rw[hit2] at hlt2
   simp only[ll] at hlt2
   simp only[tt,seval,iG hx Item.row_len,i0,iT,Item.row_mk,ai]
   have hcm:=Nat.zero_le (df g (Item.mk star qual (Expr.mk k0 o0 n0 v0 q0 m0 ks0 ss0) as_)).length
   refine cS (jm full i e1 aw) ?_ ?_<;>simp only[tt,seval]
   cases star
   case true=>
    have hi3:df g (.mk true qual (Expr.mk k0 o0 n0 v0 q0 m0 ks0 ss0) as_)=cC qual++[DB]:=rfl
    rw[hi3] at hlt2 hit2
    simp only[ll] at hlt2
    simp only[tt,seval]
    refine cS (nO full qual (e1++jB i) aw) ?_ ?_<;>simp only[tt,seval]
    refine cS (fV full ⟨#[42]⟩ (e1++jB i++cC qual) aw) ?_ ?_<;>simp only[tt,seval,hi19]
    try rw[dW i aa]
    refine⟨[.ren 10000034 10000042],ae,ae,?_⟩
    simp only[tt,seval,py]
    exact⟨[(9000,.str [.s 10000042 (e1++jB i++cC qual++[gT ⟨#[42]⟩]).length,.v (.bool full)]),(10000042,.arr 61 (e1++jB i++cC qual++[gT ⟨#[42]⟩]).length ((e1++jB i++cC qual++[gT ⟨#[42]⟩]).flatMap Tok.row) none),(3,.str [.v (.bool distinct),.sl items.length (items.flatMap Item.row) none,.sl from_.length (from_.flatMap Source.row) none,.sl where_.length (where_.flatMap Expr.row) none,.sl order.length (order.flatMap SortKey.row) none,.v (.int .i64 limit)])],none,ak rfl (ak rfl (ak rfl (aq _))),av _,⟨i+1,e1++jB i++cC qual++[gT ⟨#[42]⟩],rfl,aa,by rw[hst,he1,hit2];simp [DB,bw],rfl,rfl⟩,aE⟩
   case false=>
    have hx0:iA 36 [.ag (ar (Expr.mk k0 o0 n0 v0 q0 m0 ks0 ss0).row)] full (g (Expr.mk k0 o0 n0 v0 q0 m0 ks0 ss0)):=hgi rfl
    have hi3:df g (.mk false qual (Expr.mk k0 o0 n0 v0 q0 m0 ks0 ss0) as_)=g (Expr.mk k0 o0 n0 v0 q0 m0 ks0 ss0)++du as_:=rfl
    rw[hi3] at hlt2 hit2
    generalize g (Expr.mk k0 o0 n0 v0 q0 m0 ks0 ss0)=le at *
    simp only[ll] at hlt2
    simp only[tt,seval]
    refine cS (hx0 (e1++jB i) aw) ?_ ?_<;>simp only[tt,seval,ai]
    refine cS (B6 full as_ (e1++jB i++le) aw) ?_ ?_<;>simp only[tt,seval,hi19]
    try rw[dW i aa]
    refine⟨[],?_⟩
    simp only[tt,seval,py]
    exact⟨[(9000,.str [.s 10000042 (e1++jB i++le++du as_).length,.v (.bool full)]),(10000042,.arr 61 (e1++jB i++le++du as_).length ((e1++jB i++le++du as_).flatMap Tok.row) none),(3,.str [.v (.bool distinct),.sl items.length (items.flatMap Item.row) none,.sl from_.length (from_.flatMap Source.row) none,.sl where_.length (where_.flatMap Expr.row) none,.sl order.length (order.flatMap SortKey.row) none,.v (.int .i64 limit)])],none,ak rfl (ak rfl (ak rfl (aq _))),av _,⟨i+1,e1++jB i++le++du as_,rfl,aa,by rw[hst,he1,hit2];simp [bw],rfl,rfl⟩,aE⟩
  have hie:i=items.length:=by omega
  subst hie
  have hel19:e1.length=L1.length+(bB (dC g items) items.length).length:=by rw[he1,aA]
  clear hi hge
  refine cS (GT full e1 aw) ?_ ?_<;>simp only[tt,seval]
  refine fun _=>?_
  obtain⟨L2,hL2⟩:∃L2,L2=e1++[kT 3]:=⟨_,rfl⟩
  have hl2:L2.length=e1.length+1:=by rw[hL2];simp only[ll]
  rw[<-hL2]
  refine dLoop.gh [.ren 10000045 10000057] ⟨ae,ae,?_⟩
  refine dLoop0.introR (fun f L p=>∃(i:Nat) (es:List Tok),f 49=vi i/\i<=from_.length/\es=L2++bB (fI g from_) i/\L=[(9000,.str [.s 10000057 (es).length,.v (.bool full)]),(10000057,.arr 61 (es).length ((es).flatMap Tok.row) none),(3,.str [.v (.bool distinct),.sl items.length (items.flatMap Item.row) none,.sl from_.length (from_.flatMap Source.row) none,.sl where_.length (where_.flatMap Expr.row) none,.sl order.length (order.flatMap SortKey.row) none,.v (.int .i64 limit)])]/\p=none) (fun f _ _=>(from_.length-eO (f 49)).toNat) [(9000,.str [.s 10000057 (L2).length,.v (.bool full)]),(10000057,.arr 61 (L2).length ((L2).flatMap Tok.row) none),(3,.str [.v (.bool distinct),.sl items.length (items.flatMap Item.row) none,.sl from_.length (from_.flatMap Source.row) none,.sl where_.length (where_.flatMap Expr.row) none,.sl order.length (order.flatMap SortKey.row) none,.v (.int .i64 limit)])] none ⟨ak rfl (ak rfl (ak rfl (aq _))),av _,?_⟩ ?_
  ·simp only[tt,seval]
   exact⟨0,L2,rfl,aa,(List.append_nil _).symm,rfl⟩
  rintro g' L p ⟨i,e2,hi49,hi,he2,rfl,rfl⟩
  simp only[tt,seval] at hi49
  simp only[tt,seval,hi49,Int.ofNat_lt]
  refine ab (fun hlt=>?_) (fun hge=>?_)
  ·have hlt:i<from_.length:=by omega
   have hst:=dK (fI g from_) i
   have hlt2:=oz (fI g from_) hlt
   have hel:e2.length=L2.length+(bB (fI g from_) i).length:=by rw[he2,aA]
   obtain⟨it,bH⟩:∃it,it=from_[i]:=⟨_,rfl⟩
   have hx:from_[i]?=some it:=by rw[bH];exact aC hlt
   have hmem:it∈from_:=by rw[bH];exact aH hlt
   have i0:((0:Int)<=(i:Int))=True:=eq_true aa
   have iL:((i:Int)<(from_.length:Int))=True:=eq_true aa
   have iT:(i<from_.length)=True:=eq_true hlt
   have hgi:=hgS it hmem
   have hso:=eT dY hmem
   have hit2:fI g from_ i=fU g i it:=by rw[fI,ef hlt,bH]
   rw[hit2] at hlt2
   obtain⟨table,as_,on⟩:=it
   rw[dw,aL] at hso
   simp only[tt,seval,iG hx Source.row_len,i0,iT,Source.row_mk]
   refine cS (B7 full i (Source.mk table as_ on) g (by show on.length<=_;omega) hgi e2 aw) ?_ ?_<;>simp only[tt,seval,hi49,Source.row_mk]
   try rw[dW i aa]
   refine⟨[],?_⟩
   simp only[tt,seval,py]
   exact⟨[(9000,.str [.s 10000057 (e2++fU g i (Source.mk table as_ on)).length,.v (.bool full)]),(10000057,.arr 61 (e2++fU g i (Source.mk table as_ on)).length ((e2++fU g i (Source.mk table as_ on)).flatMap Tok.row) none),(3,.str [.v (.bool distinct),.sl items.length (items.flatMap Item.row) none,.sl from_.length (from_.flatMap Source.row) none,.sl where_.length (where_.flatMap Expr.row) none,.sl order.length (order.flatMap SortKey.row) none,.v (.int .i64 limit)])],none,ak rfl (ak rfl (ak rfl (aq _))),av _,⟨i+1,e2++fU g i (Source.mk table as_ on),rfl,aa,by rw[hst,he2,hit2];simp [bw],rfl,rfl⟩,aE⟩
  have hie:i=from_.length:=by omega
  subst hie
  have hel49:e2.length=L2.length+(bB (fI g from_) from_.length).length:=by rw[he2,aA]
  clear hi hge
  refine cS (CP full where_ g aa hgW e2 aw) ?_ ?_<;>simp only[tt,seval]
  refine fun _=>?_
  obtain⟨L3,hL3⟩:∃L3,L3=e2++pQ g where_:=⟨_,rfl⟩
  have hl3:L3.length=e2.length+(pQ g where_).length:=by rw[hL3];simp only[ll]
  rw[<-hL3]
  refine dLoop.gh [.ren 10000062 10000085] ⟨ae,ae,?_⟩
  refine dLoop0.introR (fun f L p=>∃(i:Nat) (es:List Tok),f 66=vi i/\i<=order.length/\es=L3++bB (fJ g order) i/\L=[(9000,.str [.s 10000085 (es).length,.v (.bool full)]),(10000085,.arr 61 (es).length ((es).flatMap Tok.row) none),(3,.str [.v (.bool distinct),.sl items.length (items.flatMap Item.row) none,.sl from_.length (from_.flatMap Source.row) none,.sl where_.length (where_.flatMap Expr.row) none,.sl order.length (order.flatMap SortKey.row) none,.v (.int .i64 limit)])]/\p=none) (fun f _ _=>(order.length-eO (f 66)).toNat) [(9000,.str [.s 10000085 (L3).length,.v (.bool full)]),(10000085,.arr 61 (L3).length ((L3).flatMap Tok.row) none),(3,.str [.v (.bool distinct),.sl items.length (items.flatMap Item.row) none,.sl from_.length (from_.flatMap Source.row) none,.sl where_.length (where_.flatMap Expr.row) none,.sl order.length (order.flatMap SortKey.row) none,.v (.int .i64 limit)])] none ⟨ak rfl (ak rfl (ak rfl (aq _))),av _,?_⟩ ?_
  ·simp only[tt,seval]
   exact⟨0,L3,rfl,aa,(List.append_nil _).symm,rfl⟩
  rintro g' L p ⟨i,e3,hi66,hi,he3,rfl,rfl⟩
  simp only[tt,seval] at hi66
  simp only[tt,seval,hi66,Int.ofNat_lt]
  refine ab (fun hlt=>?_) (fun hge=>?_)
  ·have hlt:i<order.length:=by omega
   have hst:=dK (fJ g order) i
   have hlt2:=oz (fJ g order) hlt
   have hel:e3.length=L3.length+(bB (fJ g order) i).length:=by rw[he3,aA]
   obtain⟨it,bH⟩:∃it,it=order[i]:=⟨_,rfl⟩
   have hx:order[i]?=some it:=by rw[bH];exact aC hlt
   have hmem:it∈order:=by rw[bH];exact aH hlt
   have i0:((0:Int)<=(i:Int))=True:=eq_true aa
   have iL:((i:Int)<(order.length:Int))=True:=eq_true aa
   have iT:(i<order.length)=True:=eq_true hlt
   have hgi:=hgO it hmem
   have hit2:fJ g order i=(if i=0 then [kT 7,kT 8] else [dv])++iv g it:=by rw[fJ,ef hlt,bH]
   obtain⟨⟨k0,o0,n0,v0,q0,m0,ks0,ss0⟩,desc⟩:=it
   have hx0:iA 36 [.ag (ar (Expr.mk k0 o0 n0 v0 q0 m0 ks0 ss0).row)] full (g (Expr.mk k0 o0 n0 v0 q0 m0 ks0 ss0)):=hgi
   have hkt:iv g (SortKey.mk (Expr.mk k0 o0 n0 v0 q0 m0 ks0 ss0) desc)=g (Expr.mk k0 o0 n0 v0 q0 m0 ks0 ss0)++(if desc=true then [kT 10] else []):=rfl
   rw[hkt] at hit2
   generalize g (Expr.mk k0 o0 n0 v0 q0 m0 ks0 ss0)=le at *
   rw[hit2] at hlt2
   have hop:0<=(if desc=true then [kT 10] else []).length:=Nat.zero_le _
   simp only[tt,seval,iG hx SortKey.row_len,i0,iT,SortKey.row_mk,ai]
   refine ab (fun hc=>?_) (fun hc=>?_)
   ·have hc:i=0:=by omega
    rw[if_pos hc] at hlt2 hit2
    simp only[ll] at hlt2
    have hcm:jB i=[]:=if_neg aa
    have hcom:=jm full i
    rw[hcm] at hcom
    refine cS (B3 full e3 aw) ?_ ?_<;>simp only[tt,seval]
    refine cS (hcom (e3++[kT 7,kT 8]) aw) ?_ ?_<;>simp only[tt,seval]
    refine cS (hx0 (e3++[kT 7,kT 8]++[]) aw) ?_ ?_<;>simp only[tt,seval,hi66,ai]
    cases desc
    case true=>
     rw[if_pos rfl] at hlt2 hit2
     simp only[ll] at hlt2
     simp only[tt,seval]
     refine cS (DE full (e3++[kT 7,kT 8]++le) aw) ?_ ?_<;>simp only[tt,seval,hi66]
     try rw[dW i aa]
     refine⟨[],?_⟩
     simp only[tt,seval,py]
     exact⟨[(9000,.str [.s 10000085 (e3++[kT 7,kT 8]++le++[kT 10]).length,.v (.bool full)]),(10000085,.arr 61 (e3++[kT 7,kT 8]++le++[kT 10]).length ((e3++[kT 7,kT 8]++le++[kT 10]).flatMap Tok.row) none),(3,.str [.v (.bool distinct),.sl items.length (items.flatMap Item.row) none,.sl from_.length (from_.flatMap Source.row) none,.sl where_.length (where_.flatMap Expr.row) none,.sl order.length (order.flatMap SortKey.row) none,.v (.int .i64 limit)])],none,ak rfl (ak rfl (ak rfl (aq _))),av _,⟨i+1,e3++[kT 7,kT 8]++le++[kT 10],rfl,aa,by rw[hst,he3,hit2];simp [bw],rfl,rfl⟩,aE⟩
    case false=>
     rw[if_neg Bool.false_ne_true] at hlt2 hit2
     simp only[tt,seval]
     try rw[dW i aa]
     refine⟨[.ren 10000081 10000085],ae,ae,?_⟩
     simp only[tt,seval,py]
     exact⟨[(9000,.str [.s 10000085 (e3++[kT 7,kT 8]++le).length,.v (.bool full)]),(10000085,.arr 61 (e3++[kT 7,kT 8]++le).length ((e3++[kT 7,kT 8]++le).flatMap Tok.row) none),(3,.str [.v (.bool distinct),.sl items.length (items.flatMap Item.row) none,.sl from_.length (from_.flatMap Source.row) none,.sl where_.length (where_.flatMap Expr.row) none,.sl order.length (order.flatMap SortKey.row) none,.v (.int .i64 limit)])],none,ak rfl (ak rfl (ak rfl (aq _))),av _,⟨i+1,e3++[kT 7,kT 8]++le,rfl,aa,by rw[hst,he3,hit2];simp [bw],rfl,rfl⟩,aE⟩
   ·have hc:¬i=0:=by omega
    rw[if_neg hc] at hlt2 hit2
    simp only[ll] at hlt2
    have hcm:jB i=[dv]:=if_pos aa
    have hcom:=jm full i
    rw[hcm] at hcom
    refine cS (hcom (e3) aw) ?_ ?_<;>simp only[tt,seval]
    refine cS (hx0 (e3++[dv]) aw) ?_ ?_<;>simp only[tt,seval,hi66,ai]
    cases desc
    case true=>
     rw[if_pos rfl] at hlt2 hit2
     simp only[ll] at hlt2
     simp only[tt,seval]
     refine cS (DE full (e3++[dv]++le) aw) ?_ ?_<;>simp only[tt,seval,hi66]
     try rw[dW i aa]
     refine⟨[],?_⟩
     simp only[tt,seval,py]
     exact⟨[(9000,.str [.s 10000085 (e3++[dv]++le++[kT 10]).length,.v (.bool full)]),(10000085,.arr 61 (e3++[dv]++le++[kT 10]).length ((e3++[dv]++le++[kT 10]).flatMap Tok.row) none),(3,.str [.v (.bool distinct),.sl items.length (items.flatMap Item.row) none,.sl from_.length (from_.flatMap Source.row) none,.sl where_.length (where_.flatMap Expr.row) none,.sl order.length (order.flatMap SortKey.row) none,.v (.int .i64 limit)])],none,ak rfl (ak rfl (ak rfl (aq _))),av _,⟨i+1,e3++[dv]++le++[kT 10],rfl,aa,by rw[hst,he3,hit2];simp [bw],rfl,rfl⟩,aE⟩
    case false=>
     rw[if_neg Bool.false_ne_true] at hlt2 hit2
     simp only[tt,seval]
     try rw[dW i aa]
     refine⟨[.ren 10000081 10000085],ae,ae,?_⟩
     simp only[tt,seval,py]
     exact⟨[(9000,.str [.s 10000085 (e3++[dv]++le).length,.v (.bool full)]),(10000085,.arr 61 (e3++[dv]++le).length ((e3++[dv]++le).flatMap Tok.row) none),(3,.str [.v (.bool distinct),.sl items.length (items.flatMap Item.row) none,.sl from_.length (from_.flatMap Source.row) none,.sl where_.length (where_.flatMap Expr.row) none,.sl order.length (order.flatMap SortKey.row) none,.v (.int .i64 limit)])],none,ak rfl (ak rfl (ak rfl (aq _))),av _,⟨i+1,e3++[dv]++le,rfl,aa,by rw[hst,he3,hit2];simp [bw],rfl,rfl⟩,aE⟩
  have hie:i=order.length:=by omega
  subst hie
  have hel66:e3.length=L3.length+(bB (fJ g order) order.length).length:=by rw[he3,aA]
  clear hi hge
  refine ab (fun hlm=>?_) (fun hlm=>?_)
  ·rw[jk,if_pos hlm] at hroom ⊢
   simp only[ll] at hroom
   refine cS (F7 full e3 aw) ?_ ?_<;>simp only[tt,seval]
   refine cZ (kF limit aa hlim) ?_ ?_<;>simp only[tt,seval]
   refine cS (re full 3 (dX limit) (e3++[kT 11]) aw) ?_ ?_<;>simp only[tt,seval]
   refine⟨.tu [],_,⟨rfl,iX (l:=e3++[kT 11]++[Tok.mk 3 (dX limit) 0]) (by rw[he3,hL3,he2,hL2,he1,hL1];simp [iT,bw])⟩,au ?_⟩
   simp only[tt,seval]
  ·rw[jk,if_neg hlm] at hroom ⊢
   simp only[ll] at hroom
   simp only[tt,seval]
   refine⟨.tu [],_,⟨rfl,iX (l:=e3) (by rw[he3,hL3,he2,hL2,he1,hL1];simp [bw])⟩,au ?_⟩
   simp only[tt,seval]
theorem F8 (full:Bool) (e:Expr):fmE e=true->Rg e->szExpr e<=1048576->xI full e (dL full e):=by
 refine jl (F1:=rc) (F2:=xy) (F3:=jz full) (P:=fun e f n t=>f=true->Rg e->szExpr e<=1048576->xI full e t) (fun e gf gn g hg hf hr hsz=>?_) e
 have hb:∀x,dZ x e->gf x=true->xI full x (g x):=fun x hx hx'=>hg x hx hx' (sc hr hx) (Nat.le_trans (gx hx) hsz)
 have hs:∀q∈e.sub,q.lim<=9223372036854775807/\szQuery q<=1048576:=fun q hq=>⟨(vW hr hq).1,Nat.le_trans (lx hq) hsz⟩
 obtain⟨kind,op,not,val,qual,name,kids,sub⟩:=e
 obtain⟨h1,h2,h3⟩:=kp hf
 refine yR kind op not val qual name kids sub full gf g hf hr.num (fun x hx=>hb x (.inl hx) (h2 x hx)) fun q hq=>?_
 refine vX full gf g q (h3 q hq) (hs q hq).1 (hs q hq).2 fun x hx=>hb x (.inr ⟨q,hq,hx⟩) ?_
 have h4:=h3 q hq
 obtain⟨d,it,fr,wh,od,li⟩:=q
 exact (kq h4).2.2.2.2.2.2.2 x hx
theorem qB (e:Expr) (hr:Rg e) (hsz:szExpr e<=1048576):Cl Tryz.prog 10 [.ag (ar e.row)] [] fun r _=>r = .c (.sl (bN e).length ((bN e).flatMap Tok.row) none):=by
 have c1:=yN e hsz
 have ht:=gL false e hr
 have he:=F8 false e
 unfold bN
 generalize dL false e=l at *
 cases hb:uj e
 case false=>
  rw[hb] at c1
  obtain⟨kind,op,not,val,qual,name,kids,sub⟩:=e
  rw[ai] at c1 ⊢
  refine am ah false Tryz.func10 rfl ac ?_
  simp only[Tryz.f10,tt,seval]
  refine cZ (c1) ?_ ?_<;>simp only[tt,seval]
  refine⟨_,[],rfl,au ?_⟩
  simp only[tt,seval]
 case true=>
  rw[hb] at c1
  obtain⟨hf,h1,h2,h3⟩:=ht hb
  have he:iA 36 [.ag (ar e.row)] false (l):=he hf hr hsz
  obtain⟨kind,op,not,val,qual,name,kids,sub⟩:=e
  rw[ai] at c1 he ⊢
  refine am ah false Tryz.func10 rfl ac ?_
  simp only[Tryz.f10,tt,seval]
  refine cZ (c1) ?_ ?_<;>simp only[tt,seval]
  refine cS (he [] (by simp only[List.length_nil];omega)) ?_ ?_<;>simp only[tt,seval]
  refine⟨_,[],rfl,au ?_⟩
  simp only[tt,seval]
end Go.Proofs.YtoegnikpokgbfaaGreatDoor
