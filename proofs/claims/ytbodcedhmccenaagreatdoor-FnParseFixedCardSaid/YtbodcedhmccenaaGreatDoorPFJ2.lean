/-
  The program's printer.
  Conditions: none.
-/
import Derived.Test.YtbodcedhmccenaaGreatDoorPFJ1
set_option linter.unusedVariables false
set_option linter.unusedSimpArgs false
set_option linter.unusedSectionVars false
set_option maxRecDepth 8000
namespace Go.Proofs.YtbodcedhmccenaaGreatDoor
open Go Go.Dv
open Go.Vc (D dg dh cX bk)
open Go.RowKit (Below)
def jk (fn:FuncId) (args:List S) (full:Bool) (l:List Tok):Prop:=∀out:List Tok,out.length+l.length<=1000000->Cl Tryz.prog fn (.c (.p 9000 0)::args) [[.ow 150 (out).length ((out).flatMap Tok.row) none,.v (.bool full)]] fun r os=>r = .tu []/\os=[[.ow 150 (out++l).length ((out++l).flatMap Tok.row) none,.v (.bool full)]]
theorem tP (full:Bool) (k:Int) (s:ByteArray):jk 163 [vi k,vs s] full ([(Tok.mk k s 0)]):=by
 intro out hroom
 simp only[ll] at hroom
 refine ai ac false Tryz.func163 rfl ae ?_
 simp only[Tryz.f163,tt,seval]
 refine iS ?_
 rw[eC (out),dJ (out) (Tok.mk k s 0)]
 refine⟨.tu [],_,⟨rfl,jS (l:=out++[(Tok.mk k s 0)]) (by rfl)⟩,am ?_⟩
 simp only[tt,seval]
theorem ny (full:Bool) (s:ByteArray):jk 190 [vs s] full ([nT s]):=by
 intro out hroom
 simp only[ll] at hroom
 refine ai ac false Tryz.func190 rfl ae ?_
 simp only[Tryz.f190,tt,seval]
 refine cS (tP full 2 s out av) ?_ ?_<;>simp only[tt,seval]
 refine⟨.tu [],_,⟨rfl,jS (l:=out++[(Tok.mk 2 s 0)]) (by rfl)⟩,am ?_⟩
 simp only[tt,seval]
theorem gO (full:Bool) (s:ByteArray):jk 159 [vs s] full ([gT s]):=by
 intro out hroom
 simp only[ll] at hroom
 refine ai ac false Tryz.func159 rfl ae ?_
 simp only[Tryz.f159,tt,seval]
 refine cS (tP full 5 s out av) ?_ ?_<;>simp only[tt,seval]
 refine⟨.tu [],_,⟨rfl,jS (l:=out++[(Tok.mk 5 s 0)]) (by rfl)⟩,am ?_⟩
 simp only[tt,seval]
theorem kx (full:Bool) (i:Nat):jk 157 [vi i] full (jQ i):=by
 intro out hroom
 refine ai ac false Tryz.func157 rfl ae ?_
 simp only[Tryz.f157,tt,seval]
 refine ab (fun hc=>?_) (fun hc=>?_)
 ·rw[jQ,if_pos aa] at hroom ⊢
  simp only[ll] at hroom
  refine cS (gO full ⟨#[44]⟩ out av) ?_ ?_<;>simp only[tt,seval]
  refine⟨.tu [],_,⟨rfl,jS (l:=out++[gT ⟨#[44]⟩]) (by rfl)⟩,am ?_⟩
  simp only[tt,seval]
 ·rw[jQ,if_neg aa] at hroom ⊢
  simp only[tt,seval]
  refine⟨.tu [],_,⟨rfl,jS (l:=out) (by first|rfl|exact (List.append_nil _).symm)⟩,am ?_⟩
  simp only[tt,seval]
theorem Aj (w:ByteArray) (l:List ByteArray) (hw:w.size<=1000) (hl:l≠[]) (hs:∀s∈l,s.size<=1000) (hn:l.length<=1000) (h1:Lib.splitB ⟨#[32]⟩ 0 (Lib.countB w ⟨#[32]⟩) w=l) (h2:Lib.countB w ⟨#[32]⟩+1=l.length):Cl Tryz.prog 259 [vs w,vs ⟨#[32]⟩] [] fun r _=>r = .c (.sl l.length (l.flatMap srow) none):=
 Cl.ofNew ae [.string w,.string ⟨#[32]⟩] fun w0 hg=>by
  obtain⟨m,hm⟩:=tX hg
  refine (Any.strings_Split Tryz.lays146 ae w ⟨#[32]⟩ m w0 aa hm ah).mono ?_
  rintro e w' ⟨rfl,rfl⟩
  rw[h1,h2]
  refine⟨_,_,rfl,rfl,by rfl,fun β=>sP w0 _ _ l hl (fun s hs'=>Nat.le_trans (hs s hs') ah) (Nat.le_trans hn ah) β (Go.heap_alloc_new w0 _),⟨rfl,rfl,rfl,by simp,fun i hi=>Go.heap_alloc_old w0 _ hi⟩⟩
def wT (s:ByteArray):Tok:=⟨1,s,0⟩
theorem DU (full:Bool) (w:ByteArray) (l:List ByteArray) (hll:l.length<=1000) (hsp:Cl Tryz.prog 259 [vs w,vs ⟨#[32]⟩] [] fun r _=>r = .c (.sl l.length (l.flatMap srow) none)):jk 156 [vs w] full (l.map wT):=by
 intro out hroom
 rw[List.length_map] at hroom
 refine ai ac false Tryz.func156 rfl ae ?_
 simp only[Tryz.f156,tt,seval]
 refine cZ (hsp) ?_ ?_<;>simp only[tt,seval]
 refine fun _=>?_
 refine dLoop.gh [.ren 9200 10000015] ⟨ah,ah,?_⟩
 refine dLoop0.intro (fun f L p=>∃(i:Nat) (es:List Tok),f 9=vi i/\i<=l.length/\es=out++(l.take i).map wT/\L=[(9000,.str [.s 10000015 (es).length,.v (.bool full)]),(10000015,.arr 150 (es).length ((es).flatMap Tok.row) none)]/\p=none) (fun f _ _=>(l.length-eH (f 9)).toNat) [(9000,.str [.s 10000015 (out).length,.v (.bool full)]),(10000015,.arr 150 (out).length ((out).flatMap Tok.row) none)] none ⟨ak rfl (ak rfl (ao _)),aq _,?_⟩ ?_
 ·simp only[tt,seval]
  exact⟨0,out,rfl,aa,(List.append_nil _).symm,rfl⟩
 ·rintro g' L p ⟨i,es,h9,hi,hes0,rfl,rfl⟩
  simp only[tt,seval] at h9
  simp only[tt,seval,h9,Int.ofNat_lt]
  refine ab (fun hlt=>?_) (fun hge=>?_)
  ·have hel:es.length=out.length+i:=by rw[hes0,aC,List.length_map,List.length_take];omega
   refine⟨aa,aa,_,aH fE (aD hlt),jY _ _,?_⟩
   simp only[tt,seval,srow]
   refine cS (tP full 1 l[i] es (by simp only[ll];omega)) ?_ ?_<;>simp only[tt,seval,h9]
   try rw[eS i aa]
   exact⟨[(9000,.str [.s 10000015 (es++[Tok.mk 1 l[i] 0]).length,.v (.bool full)]),(10000015,.arr 150 (es++[Tok.mk 1 l[i] 0]).length ((es++[Tok.mk 1 l[i] 0]).flatMap Tok.row) none)],none,ak rfl (ak rfl (ao _)),aq _,⟨i+1,es++[Tok.mk 1 l[i] 0],rfl,aa,by rw[hes0,List.take_succ_eq_append_getElem hlt,List.map_append,aL];rfl,rfl,rfl⟩,aB⟩
  ·have hie:i=l.length:=by omega
   subst hie
   rw[List.take_length] at hes0
   subst hes0
   refine⟨.tu [],_,⟨rfl,jS (l:=out++l.map wT) (by rfl)⟩,am ?_⟩
   simp only[tt,seval]
theorem DV:∀k:Fin 29,1<=k.1->Lib.splitB ⟨#[32]⟩ 0 (Lib.countB (kw k.1) ⟨#[32]⟩) (kw k.1)=[kw k.1]/\Lib.countB (kw k.1) ⟨#[32]⟩=0:=by decide +kernel
theorem eD (full:Bool) (k:Nat) (h1:1<=k) (h2:k<=28):jk 156 [vs (kw k)] full ([kT k]):=by
 obtain⟨a,b⟩:=DV ⟨k,aa⟩ h1
 have:=wZ k
 exact DU full (kw k) [kw k] (by simp) (Aj (kw k) [kw k] aa (by simp) (fun s hs=>by rw[List.mem_singleton.1 hs];omega) (by simp) a (by rw[b];rfl))
theorem DW (full:Bool):jk 156 [vs ⟨#[79,82,68,69,82,32,66,89]⟩] full ([kT 7,kT 8]):=DU full ⟨#[79,82,68,69,82,32,66,89]⟩ [kw 7,kw 8] ah (Aj ⟨#[79,82,68,69,82,32,66,89]⟩ [kw 7,kw 8] ah ah ah ah (by decide +kernel) (by decide +kernel))
theorem G8 (full:Bool):jk 156 [vs ⟨#[83,69,76,69,67,84]⟩] full ([kT 1]):=eD full 1 ah ah
theorem Bq (full:Bool):jk 156 [vs ⟨#[68,73,83,84,73,78,67,84]⟩] full ([kT 2]):=eD full 2 ah ah
theorem Jc (full:Bool):jk 156 [vs ⟨#[70,82,79,77]⟩] full ([kT 3]):=eD full 3 ah ah
theorem Jd (full:Bool):jk 156 [vs ⟨#[74,79,73,78]⟩] full ([kT 4]):=eD full 4 ah ah
theorem JY (full:Bool):jk 156 [vs ⟨#[79,78]⟩] full ([kT 5]):=eD full 5 ah ah
theorem Ih (full:Bool):jk 156 [vs ⟨#[87,72,69,82,69]⟩] full ([kT 6]):=eD full 6 ah ah
theorem GT (full:Bool):jk 156 [vs ⟨#[68,69,83,67]⟩] full ([kT 10]):=eD full 10 ah ah
theorem Ii (full:Bool):jk 156 [vs ⟨#[76,73,77,73,84]⟩] full ([kT 11]):=eD full 11 ah ah
theorem KL (full:Bool):jk 156 [vs ⟨#[65,83]⟩] full ([kT 12]):=eD full 12 ah ah
theorem Je (full:Bool):jk 156 [vs ⟨#[65,78,68]⟩] full ([kT 13]):=eD full 13 ah ah
theorem KM (full:Bool):jk 156 [vs ⟨#[79,82]⟩] full ([kT 14]):=eD full 14 ah ah
theorem Jf (full:Bool):jk 156 [vs ⟨#[78,79,84]⟩] full ([kT 15]):=eD full 15 ah ah
theorem KN (full:Bool):jk 156 [vs ⟨#[73,83]⟩] full ([kT 16]):=eD full 16 ah ah
theorem JZ (full:Bool):jk 156 [vs ⟨#[73,78]⟩] full ([kT 17]):=eD full 17 ah ah
theorem DX (full:Bool):jk 156 [vs ⟨#[66,69,84,87,69,69,78]⟩] full ([kT 18]):=eD full 18 ah ah
theorem G9 (full:Bool):jk 156 [vs ⟨#[69,88,73,83,84,83]⟩] full ([kT 19]):=eD full 19 ah ah
theorem Jg (full:Bool):jk 156 [vs ⟨#[78,85,76,76]⟩] full ([kT 20]):=eD full 20 ah ah
end Go.Proofs.YtbodcedhmccenaaGreatDoor
set_option maxRecDepth 8000
namespace Go.Proofs.YtbodcedhmccenaaGreatDoor
open Go Go.Dv
open Go.Vc (D dg dh cX bk)
theorem Al (full is:Bool):jk 194 [vb is] full (bw is):=by
 intro out hroom
 cases is
 case true=>
  have hroom:out.length+([kT 15]:List Tok).length<=1000000:=hroom
  refine ai ac false Tryz.func194 rfl ae ?_
  simp only[Tryz.f194,tt,seval]
  refine cS (Jf full out hroom) ?_ ?_<;>simp only[tt,seval]
  refine⟨.tu [],_,⟨rfl,jS (l:=out++[kT 15]) (by rfl)⟩,am ?_⟩
  simp only[tt,seval]
 case false=>
  refine ai ac false Tryz.func194 rfl ae ?_
  simp only[Tryz.f194,tt,seval]
  refine⟨.tu [],_,⟨rfl,jS (l:=out) (by exact (List.append_nil _).symm)⟩,am ?_⟩
  simp only[tt,seval]
theorem DY {v:Val} (h:dE v=true) (h1:¬v.kind=1) (h2:¬v.kind=2):∃k,1<=k/\k<=28/\qG v=kw k/\eR v=kT k:=by
 have hv:=h
 unfold dE at h
 by_cases h0:v.kind=0
 ·exact⟨20,ah,ah,by unfold qG;simp [h0,hv];rfl,by unfold eR;simp [h0]⟩
 ·rw[if_neg h0,if_neg h1,if_neg h2] at h
  by_cases h3:v.kind=3
  ·by_cases h4:v.num=1
   ·exact⟨21,ah,ah,by unfold qG;simp [h3,h4,hv];rfl,by unfold eR;simp [h3,h4]⟩
   ·exact⟨22,ah,ah,by unfold qG;simp [h3,h4,hv];rfl,by unfold eR;simp [h3,h4]⟩
  ·rw[if_neg h3] at h;cases h
theorem Jh (full:Bool) (v:Val) (h:jh v=true) (h0 : -9223372036854775808<=v.num) (h1:v.num<=9223372036854775807):jk 189 [.ag (ar v.row)] full ([eR v]):=by
 intro out hroom
 have hroom:out.length+1<=1000000:=hroom
 simp only[jh,Bool.and_eq_true,decide_eq_true_eq] at h
 rw[Val.row]
 refine ai ac false Tryz.func189 rfl ae ?_
 simp only[Tryz.f189,tt,seval]
 refine ab (fun k1=>?_) (fun k1=>?_)
 ·have hl:eR v=⟨3,d5 v.num,0⟩:=by rw[eR,if_pos k1];rfl
  rw[hl]
  refine cZ (mf v.num h0 h1) ?_ ?_<;>simp only[tt,seval]
  refine cS (tP full 3 (d5 v.num) out av) ?_ ?_<;>simp only[tt,seval]
  refine⟨.tu [],_,⟨rfl,jS (l:=out++[(Tok.mk 3 (d5 v.num) 0)]) (by rfl)⟩,am ?_⟩
  simp only[tt,seval]
 refine ab (fun k2=>?_) (fun k2=>?_)
 ·have hl:eR v=⟨4,v.text,0⟩:=by rw[eR,if_neg k1,if_pos k2]
  rw[hl]
  refine cS (tP full 4 v.text out av) ?_ ?_<;>simp only[tt,seval]
  refine⟨.tu [],_,⟨rfl,jS (l:=out++[(Tok.mk 4 v.text 0)]) (by rfl)⟩,am ?_⟩
  simp only[tt,seval]
 obtain⟨k,b1,b2,hv,hl⟩:=DY h.1 k1 k2
 rw[hl]
 refine cZ (u0 v h0 h1 aa) ?_ ?_<;>simp only[tt,seval,Val.row]
 rw[hv]
 refine cS (eD full k b1 b2 out av) ?_ ?_<;>simp only[tt,seval]
 refine⟨.tu [],_,⟨rfl,jS (l:=out++[kT k]) (by rfl)⟩,am ?_⟩
 simp only[tt,seval]
theorem pT (full:Bool) (q:ByteArray):jk 158 [vs q] full (cF q):=by
 intro out hroom
 refine ai ac false Tryz.func158 rfl ae ?_
 simp only[Tryz.f158,tt,seval]
 refine ab (fun hq=>?_) (fun hq=>?_)
 ·have hq:¬q=⟨#[]⟩:=by simpa using hq
  rw[cF,if_neg hq] at hroom ⊢
  simp only[ll] at hroom
  refine cS (ny full q out av) ?_ ?_<;>simp only[tt,seval]
  refine cS (gO full ⟨#[46]⟩ (out++[nT q]) av) ?_ ?_<;>simp only[tt,seval]
  refine⟨.tu [],_,⟨rfl,jS (l:=out++[nT q]++[gT ⟨#[46]⟩]) (by simp [Ix])⟩,am ?_⟩
  simp only[tt,seval]
 ·have hq:q=⟨#[]⟩:=by simpa using hq
  rw[cF,if_pos hq] at hroom ⊢
  simp only[tt,seval]
  refine⟨.tu [],_,⟨rfl,jS (l:=out) (by first|rfl|exact (List.append_nil _).symm)⟩,am ?_⟩
  simp only[tt,seval]
theorem DZ (full:Bool) (q:ByteArray):jk 160 [vs q] full (cQ q):=by
 intro out hroom
 refine ai ac false Tryz.func160 rfl ae ?_
 simp only[Tryz.f160,tt,seval]
 refine ab (fun hq=>?_) (fun hq=>?_)
 ·have hq:¬q=⟨#[]⟩:=by simpa using hq
  rw[cQ,if_neg hq] at hroom ⊢
  simp only[ll] at hroom
  refine cS (KL full out av) ?_ ?_<;>simp only[tt,seval]
  refine cS (ny full q (out++[kT 12]) av) ?_ ?_<;>simp only[tt,seval]
  refine⟨.tu [],_,⟨rfl,jS (l:=out++[kT 12]++[nT q]) (by simp)⟩,am ?_⟩
  simp only[tt,seval]
 ·have hq:q=⟨#[]⟩:=by simpa using hq
  rw[cQ,if_pos hq] at hroom ⊢
  simp only[tt,seval]
  refine⟨.tu [],_,⟨rfl,jS (l:=out) (by first|rfl|exact (List.append_nil _).symm)⟩,am ?_⟩
  simp only[tt,seval]
theorem KO:iJ 1=⟨#[79,82]⟩:=rfl
theorem KP:iJ 2=⟨#[65,78,68]⟩:=rfl
theorem JM:iJ 15=⟨#[78,79,84]⟩:=rfl
theorem rQ (full:Bool) (op:Int):jk 191 [vi op] full ([cy op]):=by
 intro out hroom
 have hroom:out.length+1<=1000000:=hroom
 by_cases h1:op=1
 ·subst h1
  refine ai ac false Tryz.func191 rfl ae ?_
  simp only[Tryz.f191,tt,seval]
  refine cZ (ga 1) ?_ ?_<;>simp only[tt,seval]
  refine cS (KM full out av) ?_ ?_<;>simp only[tt,seval,KO]
  refine⟨.tu [],_,⟨rfl,jS (l:=out++[kT 14]) (by rfl)⟩,am ?_⟩
  simp only[tt,seval]
 by_cases h2:op=2
 ·subst h2
  refine ai ac false Tryz.func191 rfl ae ?_
  simp only[Tryz.f191,tt,seval]
  refine cZ (ga 2) ?_ ?_<;>simp only[tt,seval]
  refine cS (Je full out av) ?_ ?_<;>simp only[tt,seval,KP]
  refine⟨.tu [],_,⟨rfl,jS (l:=out++[kT 13]) (by rfl)⟩,am ?_⟩
  simp only[tt,seval]
 by_cases h3:op=15
 ·subst h3
  refine ai ac false Tryz.func191 rfl ae ?_
  simp only[Tryz.f191,tt,seval]
  refine cZ (ga 15) ?_ ?_<;>simp only[tt,seval]
  refine cS (Jf full out av) ?_ ?_<;>simp only[tt,seval,JM]
  refine⟨.tu [],_,⟨rfl,jS (l:=out++[kT 15]) (by rfl)⟩,am ?_⟩
  simp only[tt,seval]
 refine ai ac false Tryz.func191 rfl ae ?_
 simp only[Tryz.f191,tt,seval]
 simp only[tt,seval,au h1,au h2,h3]
 refine cZ (ga op) ?_ ?_<;>simp only[tt,seval]
 refine cS (gO full (iJ op) out av) ?_ ?_<;>simp only[tt,seval]
 refine⟨.tu [],_,⟨rfl,jS (l:=out++[gT (iJ op)]) (by rw[cy,if_neg (fun h=>h.elim h1 fun h=>h.elim h2 h3)];rfl)⟩,am ?_⟩
 simp only[tt,seval]
def Am (full:Bool) (e:Expr) (l:List Tok):Prop:=jk 96 [.ag (ar e.row)] full (l)
def JN (full:Bool) (q:Query) (l:List Tok):Prop:=jk 75 [.ag (ar q.row)] full (l)
theorem GU (full:Bool) (q:Query) (l:List Tok) (h:JN full q l):jk 193 [.ag (ar q.row)] full (iN::(l++[iQ])):=by
 intro out hroom
 simp only[ll] at hroom
 have h:jk 75 [.ag (ar q.row)] full (l):=h
 obtain⟨distinct,items,from_,where_,order,limit⟩:=q
 rw[aF] at h ⊢
 refine ai ac false Tryz.func193 rfl ae ?_
 simp only[Tryz.f193,tt,seval]
 refine cS (gO full ⟨#[40]⟩ out av) ?_ ?_<;>simp only[tt,seval]
 refine cS (h (out++[gT ⟨#[40]⟩]) av) ?_ ?_<;>simp only[tt,seval]
 refine cS (gO full ⟨#[41]⟩ (out++[gT ⟨#[40]⟩]++l) av) ?_ ?_<;>simp only[tt,seval]
 refine⟨.tu [],_,⟨rfl,jS (l:=out++[gT ⟨#[40]⟩]++l++[gT ⟨#[41]⟩]) (by simp [iN,iQ])⟩,am ?_⟩
 simp only[tt,seval]
set_option maxHeartbeats 1000000 in
theorem Ji (kind op:Int) (not:Bool) (val:Val) (qual name:ByteArray) (kids:List Expr) (sub:List Query) (full:Bool) (k:Nat) (hk:k<kids.length) (l:List Tok) (hx:Am full kids[k] l):jk 192 [.ag (ar (Expr.mk kind op not val qual name kids sub).row),vi k] full (jP (Bf full kind op kids k) l):=by
 intro out hroom
 obtain⟨it,bu⟩:∃it,it=kids[k]:=⟨_,rfl⟩
 have hw:(Bf full kind op kids k)=(kE kind op kids k||(full&&decide (kP it<9))):=by rw[Bf,List.getD_eq_getElem?_getD,aD hk,bu];rfl
 rw[hw] at hroom ⊢
 rw[<-bu] at hx
 have hx:jk 96 [.ag (ar it.row)] full (l):=hx
 have hx0:kids[k]?=some it:=by rw[bu];exact aD hk
 have i0:((0:Int)<=(k:Int))=True:=eq_true aa
 have iL:((k:Int)<(kids.length:Int))=True:=eq_true aa
 have hlb:0<=kP it/\kP it<=9:=by unfold kP;exact mh _ _
 have hlv:=mS it
 rw[al]
 refine ai ac false Tryz.func192 rfl ae ?_
 simp only[Tryz.f192,tt,seval]
 refine cZ (xL kind op not val qual name kids sub k hk) ?_ ?_<;>simp only[tt,seval,al]
 cases hw1:kE kind op kids k
 case true=>
  rw[hw1] at hroom
  simp only[tt,seval]
  have hroom:out.length+(iN::(l++[iQ])).length<=1000000:=hroom
  simp only[ll] at hroom
  refine cS (gO full ⟨#[40]⟩ out av) ?_ ?_<;>simp only[tt,seval,cT hx0 aQ,i0,iL,Expr.tk,aQ]
  refine cS (hx (out++[gT ⟨#[40]⟩]) av) ?_ ?_<;>simp only[tt,seval]
  refine cS (gO full ⟨#[41]⟩ (out++[gT ⟨#[40]⟩]++l) av) ?_ ?_<;>simp only[tt,seval]
  refine⟨.tu [],_,⟨rfl,jS (l:=out++[gT ⟨#[40]⟩]++l++[gT ⟨#[41]⟩]) (by simp [jP,iN,iQ])⟩,am ?_⟩
  simp only[tt,seval]
 case false=>
  simp only[tt,seval]
  cases full
  case false=>
   rw[hw1] at hroom
   simp only[tt,seval,cT hx0 aQ,i0,iL,Expr.tk,aQ]
   have hroom:out.length+l.length<=1000000:=hroom
   refine cS (hx out hroom) ?_ ?_<;>simp only[tt,seval]
   refine⟨.tu [],_,⟨rfl,jS (l:=out++l) (by rfl)⟩,am ?_⟩
   simp only[tt,seval]
  case true=>
   simp only[tt,seval,cT hx0 aQ,i0,iL,Expr.tk,aQ]
   refine cZ (hlv) ?_ ?_<;>simp only[tt,seval,cT hx0 aQ,i0,iL,Expr.tk,aQ]
   rw[hw1] at hroom
   by_cases h9:kP it=9
   ·rw[au (show ¬kP it<9 by omega)] at hroom ⊢
    simp only[tt,seval,h9]
    have hroom:out.length+l.length<=1000000:=hroom
    refine cS (hx out hroom) ?_ ?_<;>simp only[tt,seval]
    refine⟨.tu [],_,⟨rfl,jS (l:=out++l) (by rfl)⟩,am ?_⟩
    simp only[tt,seval]
   ·rw[az (show kP it<9 by omega)] at hroom ⊢
    simp only[tt,seval,h9]
    have hroom:out.length+(iN::(l++[iQ])).length<=1000000:=hroom
    simp only[ll] at hroom
    refine cS (gO true ⟨#[40]⟩ out av) ?_ ?_<;>simp only[tt,seval,cT hx0 aQ,i0,iL,Expr.tk,aQ]
    refine cS (hx (out++[gT ⟨#[40]⟩]) av) ?_ ?_<;>simp only[tt,seval]
    refine cS (gO true ⟨#[41]⟩ (out++[gT ⟨#[40]⟩]++l) av) ?_ ?_<;>simp only[tt,seval]
    refine⟨.tu [],_,⟨rfl,jS (l:=out++[gT ⟨#[40]⟩]++l++[gT ⟨#[41]⟩]) (by simp [jP,iN,iQ])⟩,am ?_⟩
    simp only[tt,seval]
theorem Ga (full:Bool) (l:List Expr) (g:Expr->List Tok) (hll:l.length<=1048576) (hg:∀x∈l,Am full x (g x)):jk 162 [.c (.sl l.length (l.flatMap Expr.row) none)] full (nA g l):=by
 intro out hroom
 refine ai ac false Tryz.func162 rfl ae ?_
 simp only[Tryz.f162,tt,seval]
 refine fun _=>?_
 rcases hL:l with _|⟨e,r⟩
 ·rw[hL] at hroom
  simp only[tt,seval]
  refine⟨.tu [],_,⟨rfl,jS (l:=out) (by exact (List.append_nil _).symm)⟩,am ?_⟩
  simp only[tt,seval]
 ·rw[<-hL]
  have hlen:l.length=r.length+1:=by rw[hL];rfl
  have hw:nA g l=kT 6::g e:=by rw[hL];rfl
  have hx:jk 96 [.ag (ar e.row)] full (g e):=hg e (by rw[hL];simp)
  have hpos:((0:Int)<l.length)=True:=eq_true aa
  rw[hw] at hroom ⊢
  clear hw
  generalize g e=le at *
  simp only[ll] at hroom
  simp only[tt,seval,hpos]
  refine cS (Ih full out av) ?_ ?_<;>simp only[tt,seval,hpos,vy hL aQ,cU (aQ e),aQ]
  refine cS (hx (out++[kT 6]) av) ?_ ?_<;>simp only[tt,seval]
  refine⟨.tu [],_,⟨rfl,jS (l:=out++[kT 6]++le) (by simp)⟩,am ?_⟩
  simp only[tt,seval]
set_option maxHeartbeats 2000000 in
theorem E4 (full:Bool) (i:Nat) (s:Source) (g:Expr->List Tok) (hll:s.on.length<=1048576) (hg:∀x∈s.on,Am full x (g x)):jk 161 [vi i,.ag (ar s.row)] full (fy g i s):=by
 intro out hroom
 obtain⟨table,as_,on⟩:=s
 have hll:on.length<=1048576:=hll
 have hg:∀x∈on,Am full x (g x):=hg
 have hol:(on.length<=9223372036854775807)=True:=eq_true aa
 rw[Source.row_mk]
 rcases hL:on with _|⟨e,r⟩
 ·have hle:rE g on=[]:=by rw[hL];rfl
  have hlen:on.length=0:=by rw[hL];rfl
  try rw[<-hL]
  have op:¬(0:Int)<on.length:=by omega
  by_cases hi0:i=0
  ·have ip:¬(0:Int)<i:=by omega
   have hsrc:fy g i (Source.mk table as_ on)=[]++(nT table::(cQ as_++[])):=by
    show (if 0<i then (if 0<on.length then [kT 4] else [dQ]) else [])++(nT table::(cQ as_++rE g on))=_
    rw[hle]
    rw[if_neg aa]
   rw[hsrc] at hroom ⊢
   simp only[ll] at hroom
   refine ai ac false Tryz.func161 rfl ae ?_
   simp only[Tryz.f161,tt,seval]
   simp only[tt,seval,ip]
   have hcm:jQ i=[]:=if_neg aa
   have hcom:=kx full i
   rw[hcm] at hcom
   refine cS (hcom out av) ?_ ?_<;>simp only[tt,seval]
   refine cS (ny full table (out++[]) av) ?_ ?_<;>simp only[tt,seval]
   refine cS (DZ full as_ (out++[]++[nT table]) av) ?_ ?_<;>simp only[tt,seval,hol,op]
   refine⟨.tu [],_,⟨rfl,jS (l:=out++[]++[nT table]++cQ as_) (by simp)⟩,am ?_⟩
   simp only[tt,seval]
  ·have ip:(0:Int)<i:=by omega
   have hsrc:fy g i (Source.mk table as_ on)=[dQ]++(nT table::(cQ as_++[])):=by
    show (if 0<i then (if 0<on.length then [kT 4] else [dQ]) else [])++(nT table::(cQ as_++rE g on))=_
    rw[hle]
    rw[if_pos aa];rw[if_neg aa]
   rw[hsrc] at hroom ⊢
   simp only[ll] at hroom
   refine ai ac false Tryz.func161 rfl ae ?_
   simp only[Tryz.f161,tt,seval]
   simp only[tt,seval,hol,ip,op]
   have hcm:jQ i=[dQ]:=if_pos aa
   have hcom:=kx full i
   rw[hcm] at hcom
   refine cS (hcom out av) ?_ ?_<;>simp only[tt,seval]
   refine cS (ny full table (out++[dQ]) av) ?_ ?_<;>simp only[tt,seval]
   refine cS (DZ full as_ (out++[dQ]++[nT table]) av) ?_ ?_<;>simp only[tt,seval,hol,op]
   refine⟨.tu [],_,⟨rfl,jS (l:=out++[dQ]++[nT table]++cQ as_) (by simp)⟩,am ?_⟩
   simp only[tt,seval]
 ·have hle0:rE g on=kT 5::g e:=by rw[hL];rfl
  have hlen:on.length=r.length+1:=by rw[hL];rfl
  have hxe:jk 96 [.ag (ar e.row)] full (g e):=hg e (by rw[hL];simp)
  try rw[<-hL]
  obtain⟨le,hle1⟩:∃le,le=g e:=⟨_,rfl⟩
  have hle:rE g on=kT 5::le:=by rw[hle0,hle1]
  rw[<-hle1] at hxe
  have hpos:((0:Int)<on.length)=True:=eq_true aa
  have op:(0:Int)<on.length:=by omega
  by_cases hi0:i=0
  ·have ip:¬(0:Int)<i:=by omega
   have hsrc:fy g i (Source.mk table as_ on)=[]++(nT table::(cQ as_++(kT 5::le))):=by
    show (if 0<i then (if 0<on.length then [kT 4] else [dQ]) else [])++(nT table::(cQ as_++rE g on))=_
    rw[hle]
    rw[if_neg aa]
   rw[hsrc] at hroom ⊢
   simp only[ll] at hroom
   refine ai ac false Tryz.func161 rfl ae ?_
   simp only[Tryz.f161,tt,seval]
   simp only[tt,seval,ip]
   have hcm:jQ i=[]:=if_neg aa
   have hcom:=kx full i
   rw[hcm] at hcom
   refine cS (hcom out av) ?_ ?_<;>simp only[tt,seval]
   refine cS (ny full table (out++[]) av) ?_ ?_<;>simp only[tt,seval]
   refine cS (DZ full as_ (out++[]++[nT table]) av) ?_ ?_<;>simp only[tt,seval,hol,op]
   refine cS (JY full (out++[]++[nT table]++cQ as_) av) ?_ ?_<;>simp only[tt,seval,op,vy hL aQ,cU (aQ e),aQ]
   refine cS (hxe (out++[]++[nT table]++cQ as_++[kT 5]) av) ?_ ?_<;>simp only[tt,seval]
   refine⟨.tu [],_,⟨rfl,jS (l:=out++[]++[nT table]++cQ as_++[kT 5]++le) (by simp)⟩,am ?_⟩
   simp only[tt,seval]
  ·have ip:(0:Int)<i:=by omega
   have hsrc:fy g i (Source.mk table as_ on)=[kT 4]++(nT table::(cQ as_++(kT 5::le))):=by
    show (if 0<i then (if 0<on.length then [kT 4] else [dQ]) else [])++(nT table::(cQ as_++rE g on))=_
    rw[hle]
    rw[if_pos aa];rw[if_pos aa]
   rw[hsrc] at hroom ⊢
   simp only[ll] at hroom
   refine ai ac false Tryz.func161 rfl ae ?_
   simp only[Tryz.f161,tt,seval]
   simp only[tt,seval,hol,ip,op]
   refine cS (Jd full out av) ?_ ?_<;>simp only[tt,seval]
   refine cS (ny full table (out++[kT 4]) av) ?_ ?_<;>simp only[tt,seval]
   refine cS (DZ full as_ (out++[kT 4]++[nT table]) av) ?_ ?_<;>simp only[tt,seval,hol,op]
   refine cS (JY full (out++[kT 4]++[nT table]++cQ as_) av) ?_ ?_<;>simp only[tt,seval,op,vy hL aQ,cU (aQ e),aQ]
   refine cS (hxe (out++[kT 4]++[nT table]++cQ as_++[kT 5]) av) ?_ ?_<;>simp only[tt,seval]
   refine⟨.tu [],_,⟨rfl,jS (l:=out++[kT 4]++[nT table]++cQ as_++[kT 5]++le) (by simp)⟩,am ?_⟩
   simp only[tt,seval]
set_option maxHeartbeats 4000000 in
theorem Br (kind op:Int) (not:Bool) (val:Val) (qual name:ByteArray) (kids:List Expr) (sub:List Query) (full:Bool) (gf:Expr->Bool) (g:Expr->List Tok) (hf:tJ gf (Expr.mk kind op not val qual name kids sub)=true) (hnum : -9223372036854775808<=val.num/\val.num<=9223372036854775807) (hg:∀x∈kids,Am full x (g x)) (hgq:∀q∈sub,JN full q (dP g q)):Am full (Expr.mk kind op not val qual name kids sub) (iO full g (Expr.mk kind op not val qual name kids sub)):=by
 intro out hroom
 have hkid:∀k (hk:k<kids.length),jk 192 [.ag (ar (Expr.mk kind op not val qual name kids sub).row),vi k] full (aP full g kind op kids k):=fun k hk out hr=>by
  rw[Ai hk] at hr ⊢
  exact Ji kind op not val qual name kids sub full k hk _ (hg _ (aO hk)) out hr
 have hsp:=(jR hf).1
 clear hf hg
 rw[al]
 rcases j5 hsp with⟨rfl,hl,hk0,hs0⟩|⟨rfl,hn,hm,hk0,hs0⟩|⟨rfl,ho,hk0,hs0⟩|⟨rfl,ho,hk0,hs0⟩|⟨rfl,hk0,hs0⟩|⟨rfl,hk0,hs0⟩|⟨rfl,hk0,hs0⟩|⟨rfl,hk0,hs0⟩|⟨rfl,hk0,hs0⟩
 ·skip
  have e:iO full g (Expr.mk 1 op not val qual name kids sub)=[eR val]:=rfl
  rw[e] at hroom ⊢
  clear e
  simp only[ll] at hroom
  refine ai ac false Tryz.func96 rfl ae ?_
  simp only[Tryz.f96,tt,seval]
  refine cS (Jh full val hl hnum.1 hnum.2 (out) av) ?_ ?_<;>simp only[tt,seval,Val.row]
  refine⟨.tu [],_,⟨rfl,jS (l:=out++[eR val]) (by simp [])⟩,am ?_⟩
  simp only[tt,seval]
 ·skip
  have e:iO full g (Expr.mk 2 op not val qual name kids sub)=cF qual++[nT name]:=rfl
  rw[e] at hroom ⊢
  clear e
  simp only[ll] at hroom
  refine ai ac false Tryz.func96 rfl ae ?_
  simp only[Tryz.f96,tt,seval]
  refine cS (pT full qual (out) av) ?_ ?_<;>simp only[tt,seval]
  refine cS (ny full name (out++cF qual) av) ?_ ?_<;>simp only[tt,seval]
  refine⟨.tu [],_,⟨rfl,jS (l:=out++cF qual++[nT name]) (by simp [aL])⟩,am ?_⟩
  simp only[tt,seval]
 ·skip
  have e:iO full g (Expr.mk 3 op not val qual name kids sub)=cy op::aP full g 3 op kids 0:=rfl
  rw[e] at hroom ⊢
  clear e
  have hkid0:=hkid 0 aa
  generalize aP full g 3 op kids 0=a0 at *
  simp only[ll] at hroom
  refine ai ac false Tryz.func96 rfl ae ?_
  simp only[Tryz.f96,tt,seval]
  refine cS (rQ full op (out) av) ?_ ?_<;>simp only[tt,seval]
  refine cS (hkid0 (out++[cy op]) av) ?_ ?_<;>simp only[tt,seval,al]
  refine⟨.tu [],_,⟨rfl,jS (l:=out++[cy op]++a0) (by simp [aL])⟩,am ?_⟩
  simp only[tt,seval]
 ·skip
  have e:iO full g (Expr.mk 4 op not val qual name kids sub)=aP full g 4 op kids 0++(cy op::aP full g 4 op kids 1):=rfl
  rw[e] at hroom ⊢
  clear e
  have hkid0:=hkid 0 aa
  generalize aP full g 4 op kids 0=a0 at *
  have hkid1:=hkid 1 aa
  generalize aP full g 4 op kids 1=a1 at *
  simp only[ll] at hroom
  refine ai ac false Tryz.func96 rfl ae ?_
  simp only[Tryz.f96,tt,seval]
  refine cS (hkid0 (out) av) ?_ ?_<;>simp only[tt,seval,al]
  refine cS (rQ full op (out++a0) av) ?_ ?_<;>simp only[tt,seval]
  refine cS (hkid1 (out++a0++[cy op]) av) ?_ ?_<;>simp only[tt,seval,al]
  refine⟨.tu [],_,⟨rfl,jS (l:=out++a0++[cy op]++a1) (by simp [aL])⟩,am ?_⟩
  simp only[tt,seval]
 ·skip
  have e:iO full g (Expr.mk 5 op not val qual name kids sub)=aP full g 5 op kids 0++(kT 16::(bw not++[kT 20])):=rfl
  rw[e] at hroom ⊢
  clear e
  have hkid0:=hkid 0 aa
  generalize aP full g 5 op kids 0=a0 at *
  simp only[ll] at hroom
  refine ai ac false Tryz.func96 rfl ae ?_
  simp only[Tryz.f96,tt,seval]
  refine cS (hkid0 (out) av) ?_ ?_<;>simp only[tt,seval,al]
  refine cS (KN full (out++a0) av) ?_ ?_<;>simp only[tt,seval]
  refine cS (Al full not (out++a0++[kT 16]) av) ?_ ?_<;>simp only[tt,seval]
  refine cS (Jg full (out++a0++[kT 16]++bw not) av) ?_ ?_<;>simp only[tt,seval]
  refine⟨.tu [],_,⟨rfl,jS (l:=out++a0++[kT 16]++bw not++[kT 20]) (by simp [aL])⟩,am ?_⟩
  simp only[tt,seval]
 ·skip
  have e:iO full g (Expr.mk 6 op not val qual name kids sub)=aP full g 6 op kids 0++(bw not++(kT 18::(aP full g 6 op kids 1++(kT 13::aP full g 6 op kids 2)))):=rfl
  rw[e] at hroom ⊢
  clear e
  have hkid0:=hkid 0 aa
  generalize aP full g 6 op kids 0=a0 at *
  have hkid1:=hkid 1 aa
  generalize aP full g 6 op kids 1=a1 at *
  have hkid2:=hkid 2 aa
  generalize aP full g 6 op kids 2=a2 at *
  simp only[ll] at hroom
  refine ai ac false Tryz.func96 rfl ae ?_
  simp only[Tryz.f96,tt,seval]
  refine cS (hkid0 (out) av) ?_ ?_<;>simp only[tt,seval,al]
  refine cS (Al full not (out++a0) av) ?_ ?_<;>simp only[tt,seval]
  refine cS (DX full (out++a0++bw not) av) ?_ ?_<;>simp only[tt,seval]
  refine cS (hkid1 (out++a0++bw not++[kT 18]) av) ?_ ?_<;>simp only[tt,seval,al]
  refine cS (Je full (out++a0++bw not++[kT 18]++a1) av) ?_ ?_<;>simp only[tt,seval]
  refine cS (hkid2 (out++a0++bw not++[kT 18]++a1++[kT 13]) av) ?_ ?_<;>simp only[tt,seval,al]
  refine⟨.tu [],_,⟨rfl,jS (l:=out++a0++bw not++[kT 18]++a1++[kT 13]++a2) (by simp [aL])⟩,am ?_⟩
  simp only[tt,seval]
 ·skip
  have e:iO full g (Expr.mk 7 op not val qual name kids sub)=aP full g 7 op kids 0++(bw not++(kT 17::iN::((bd (oN full g 7 op kids) (kids.length-1))++[iQ]))):=rfl
  rw[e] at hroom ⊢
  clear e
  simp only[ll] at hroom
  refine ai ac false Tryz.func96 rfl ae ?_
  simp only[Tryz.f96,tt,seval]
  have hkid0:=hkid 0 aa
  obtain⟨a0,ha0⟩:∃a0,a0=aP full g 7 op kids 0:=⟨_,rfl⟩
  rw[<-ha0] at hkid0 hroom ⊢
  refine cS (hkid0 (out) av) ?_ ?_<;>simp only[tt,seval,al]
  refine cS (Al full not (out++a0) av) ?_ ?_<;>simp only[tt,seval]
  refine cS (JZ full (out++a0++bw not) av) ?_ ?_<;>simp only[tt,seval]
  refine cS (gO full ⟨#[40]⟩ (out++a0++bw not++[kT 17]) av) ?_ ?_<;>simp only[tt,seval]
  obtain⟨L0,hL0⟩:∃L0,L0=out++a0++bw not++[kT 17]++[iN]:=⟨_,rfl⟩
  have hL0l:L0.length=out.length+a0.length+(bw not).length+2:=by rw[hL0];simp only[ll]
  have hgt:out++a0++bw not++[kT 17]++[gT ⟨#[40]⟩]=L0:=by rw[hL0];rfl
  rw[hgt]
  refine dLoop.gh [.ren 10000105 10000120] ⟨ah,ah,?_⟩
  refine dLoop0.intro (fun f L p=>∃(j:Nat) (es:List Tok),f 4=vi (j+1:Nat)/\j<=kids.length-1/\es=L0++bd (oN full g 7 op kids) j/\L=[(9000,.str [.s 10000120 (es).length,.v (.bool full)]),(10000120,.arr 150 (es).length ((es).flatMap Tok.row) none),(3,.str [.v (.int .i64 7),.v (.int .i64 op),.v (.bool not),.v (.int .i64 val.kind),.v (.int .i64 val.num),.v (.string val.text),.v (.string qual),.v (.string name),.sl kids.length (kids.flatMap Expr.row) none,.sl sub.length (sub.flatMap Query.row) none])]/\p=none) (fun f _ _=>(kids.length-eH (f 4)).toNat) [(9000,.str [.s 10000120 (L0).length,.v (.bool full)]),(10000120,.arr 150 (L0).length ((L0).flatMap Tok.row) none),(3,.str [.v (.int .i64 7),.v (.int .i64 op),.v (.bool not),.v (.int .i64 val.kind),.v (.int .i64 val.num),.v (.string val.text),.v (.string qual),.v (.string name),.sl kids.length (kids.flatMap Expr.row) none,.sl sub.length (sub.flatMap Query.row) none])] none ⟨ak rfl (ak rfl (ak rfl (ao _))),aq _,?_⟩ ?_
  ·simp only[tt,seval]
   exact⟨0,L0,rfl,aa,(List.append_nil _).symm,rfl⟩
  ·rintro g' L p ⟨j,es,hi,hjn,hes0,rfl,rfl⟩
   simp only[tt,seval] at hi
   simp only[tt,seval,hi]
   refine fun _=>ab (fun hlt=>?_) (fun hge=>?_)
   ·have hlt:j<kids.length-1:=by omega
    have hst:=da (oN full g 7 op kids) j
    have hlt2:=j4 (oN full g 7 op kids) hlt
    have hel:es.length=L0.length+(bd (oN full g 7 op kids) j).length:=by rw[hes0,aC]
    have hfj:oN full g 7 op kids j=jQ j++aP full g 7 op kids (j+1):=rfl
    rw[hfj] at hst hlt2
    simp only[ll] at hlt2
    have hkj:=hkid (j+1) aa
    generalize aP full g 7 op kids (j+1)=aj at *
    rw[ax (n:=((j+1:Nat):Int)-1) aa aa,show ((j+1:Nat):Int)-1=(j:Int) by omega]
    refine cS (kx full j es av) ?_ ?_<;>simp only[tt,seval,hi]
    refine cS (hkj (es++jQ j) av) ?_ ?_<;>simp only[tt,seval,hi,al]
    try rw[ax (n:=((j+1:Nat):Int)+1) aa aa]
    exact⟨[(9000,.str [.s 10000120 ((es++jQ j++aj)).length,.v (.bool full)]),(10000120,.arr 150 ((es++jQ j++aj)).length (((es++jQ j++aj)).flatMap Tok.row) none),(3,.str [.v (.int .i64 7),.v (.int .i64 op),.v (.bool not),.v (.int .i64 val.kind),.v (.int .i64 val.num),.v (.string val.text),.v (.string qual),.v (.string name),.sl kids.length (kids.flatMap Expr.row) none,.sl sub.length (sub.flatMap Query.row) none])],none,ak rfl (ak rfl (ak rfl (ao _))),aq _,⟨j+1,es++jQ j++aj,rfl,aa,by rw[hst,hes0];simp [aL],rfl,rfl⟩,aB⟩
   ·have hje:j=kids.length-1:=by omega
    rw[hje] at hes0
    have hel:es.length=L0.length+(bd (oN full g 7 op kids) (kids.length-1)).length:=by rw[hes0,aC]
    refine cS (gO full ⟨#[41]⟩ es av) ?_ ?_<;>simp only[tt,seval]
    refine⟨.tu [],_,⟨rfl,jS (l:=es++[gT ⟨#[41]⟩]) (by rw[hes0,hL0];simp [iQ,aL])⟩,am ?_⟩
    simp only[tt,seval]
 ·skip
  obtain⟨q,hsub⟩:=j6 hs0
  have hsl:kK g sub=dP g q:=by rw[hsub];rfl
  have hq:=hgq q (by rw[hsub];simp)
  have hpos:((0:Int)<sub.length)=True:=eq_true aa
  have e:iO full g (Expr.mk 8 op not val qual name kids sub)=aP full g 8 op kids 0++(bw not++(kT 17::iN::(kK g sub++[iQ]))):=rfl
  rw[e] at hroom ⊢
  clear e
  have hkid0:=hkid 0 aa
  generalize aP full g 8 op kids 0=a0 at *
  simp only[ll] at hroom
  refine ai ac false Tryz.func96 rfl ae ?_
  simp only[Tryz.f96,tt,seval]
  rw[hsl] at hroom ⊢
  refine cS (hkid0 (out) av) ?_ ?_<;>simp only[tt,seval,al]
  refine cS (Al full not (out++a0) av) ?_ ?_<;>simp only[tt,seval]
  refine cS (JZ full (out++a0++bw not) av) ?_ ?_<;>simp only[tt,seval,Bn hsub,hpos,gu (Query.row_len q),Query.row_len]
  refine cS (GU full q (dP g q) hq (out++a0++bw not++[kT 17]) av) ?_ ?_<;>simp only[tt,seval]
  refine⟨.tu [],_,⟨rfl,jS (l:=out++a0++bw not++[kT 17]++(iN::(dP g q++[iQ]))) (by simp [aL])⟩,am ?_⟩
  simp only[tt,seval]
 ·skip
  obtain⟨q,hsub⟩:=j6 hs0
  have hsl:kK g sub=dP g q:=by rw[hsub];rfl
  have hq:=hgq q (by rw[hsub];simp)
  have hpos:((0:Int)<sub.length)=True:=eq_true aa
  have e:iO full g (Expr.mk 9 op not val qual name kids sub)=kT 19::iN::(kK g sub++[iQ]):=rfl
  rw[e] at hroom ⊢
  clear e
  simp only[ll] at hroom
  refine ai ac false Tryz.func96 rfl ae ?_
  simp only[Tryz.f96,tt,seval]
  rw[hsl] at hroom ⊢
  refine cS (G9 full (out) av) ?_ ?_<;>simp only[tt,seval,Bn hsub,hpos,gu (Query.row_len q),Query.row_len]
  refine cS (GU full q (dP g q) hq (out++[kT 19]) av) ?_ ?_<;>simp only[tt,seval]
  refine⟨.tu [],_,⟨rfl,jS (l:=out++[kT 19]++(iN::(dP g q++[iQ]))) (by simp [aL])⟩,am ?_⟩
  simp only[tt,seval]
set_option maxHeartbeats 8000000 in
theorem rR (full:Bool) (gf:Expr->Bool) (g:Expr->List Tok) (q:Query) (hf:hZ gf q=true) (hlim:q.lim<=9223372036854775807) (hsz:szQuery q<=1048576) (hg:∀x∈exprsQ q,Am full x (g x)):JN full q (dP g q):=by
 intro out hroom
 obtain⟨distinct,items,from_,where_,order,limit⟩:=q
 obtain⟨_,_,_,_,hl1,_,_,_⟩:=ff hf
 have hlim:limit<=9223372036854775807:=hlim
 rw[dC,dB,cM,aT,cB] at hsz
 have eq:exprsQ (.mk distinct items from_ where_ order limit)=aY items++from_.flatMap Source.on++where_++order.map SortKey.e:=rfl
 rw[eq] at hg
 have hgI:∀x∈items,x.star=false->Am full x.e (g x.e):=fun x hx hs=>hg _ (by
  simp only[List.mem_append,aY,List.mem_map,List.mem_filter]
  exact .inl (.inl (.inl ⟨_,⟨hx,by rw[hs];rfl⟩,rfl⟩)))
 have hgS:∀s∈from_,∀x∈s.on,Am full x (g x):=fun s hs x hx=>hg _ (by
  simp only[List.mem_append,List.mem_flatMap]
  exact .inl (.inl (.inr ⟨_,hs,hx⟩)))
 have hgW:∀x∈where_,Am full x (g x):=fun x hx=>hg _ (by simp [hx])
 have hgO:∀k∈order,Am full k.e (g k.e):=fun k hk=>hg _ (by
  simp only[List.mem_append,List.mem_map]
  exact .inr ⟨_,hk,rfl⟩)
 clear hf hg eq
 rw[aF]
 obtain⟨dl,hdl⟩:∃dl,dl=(if distinct=true then [kT 2] else []):=⟨_,rfl⟩
 have e:dP g (.mk distinct items from_ where_ order limit)=kT 1::(dl++(bd (dd g items) items.length++(kT 3::(bd (dR g from_) from_.length++(nA g where_++(bd (eY g order) order.length++iR limit)))))):=by rw[hdl];rfl
 rw[e] at hroom ⊢
 clear e
 simp only[ll] at hroom
 refine ai ac false Tryz.func75 rfl ae ?_
 simp only[Tryz.f75,tt,seval]
 refine cS (G8 full out av) ?_ ?_<;>simp only[tt,seval]
 refine ab (fun hd=>?_) (fun hd=>?_)
 all_goals first
  | (have hd1:dl=[kT 2]:=by rw[hdl,if_pos hd]
     have hd2:dl.length=1:=by rw[hd1];rfl
     refine CallQ.intro (Bq full (out++[kT 1]) av) ?_ ?_ ?_
     ·decide
     ·simp only[tt,seval]
     rintro r os ⟨rfl,rfl⟩ hos
     simp only[tt,seval]
     refine fun _=>?_
     rw[<-hd1]
     refine dLoop.gh [.ren 10000015 10000042] ⟨ah,ah,?_⟩)
  | (have hd1:dl=[]:=by rw[hdl,hd];rfl
     refine fun _=>?_
     rw[show out++[kT 1]=out++[kT 1]++dl by rw[hd1,List.append_nil]]
     refine dLoop.gh [.ren 10000011 10000042] ⟨ah,ah,?_⟩)
 all_goals
  obtain⟨L1,hL1⟩:∃L1,L1=out++[kT 1]++dl:=⟨_,rfl⟩
  rw[<-hL1]
  have hel1:L1.length=out.length+1+dl.length:=by rw[hL1];simp only[ll]
  refine dLoop0.introR (fun f L p=>∃(i:Nat) (es:List Tok),f 19=vi i/\i<=items.length/\es=L1++bd (dd g items) i/\L=[(9000,.str [.s 10000042 (es).length,.v (.bool full)]),(10000042,.arr 150 (es).length ((es).flatMap Tok.row) none),(3,.str [.v (.bool distinct),.sl items.length (items.flatMap Item.row) none,.sl from_.length (from_.flatMap Source.row) none,.sl where_.length (where_.flatMap Expr.row) none,.sl order.length (order.flatMap SortKey.row) none,.v (.int .i64 limit)])]/\p=none) (fun f _ _=>(items.length-eH (f 19)).toNat) [(9000,.str [.s 10000042 (L1).length,.v (.bool full)]),(10000042,.arr 150 (L1).length ((L1).flatMap Tok.row) none),(3,.str [.v (.bool distinct),.sl items.length (items.flatMap Item.row) none,.sl from_.length (from_.flatMap Source.row) none,.sl where_.length (where_.flatMap Expr.row) none,.sl order.length (order.flatMap SortKey.row) none,.v (.int .i64 limit)])] none ⟨ak rfl (ak rfl (ak rfl (ao _))),aq _,?_⟩ ?_
  ·simp only[tt,seval]
   exact⟨0,L1,rfl,aa,(List.append_nil _).symm,rfl⟩
  rintro g' L p ⟨i,e1,hi19,hi,he1,rfl,rfl⟩
  simp only[tt,seval] at hi19
  simp only[tt,seval,hi19,Int.ofNat_lt]
  refine ab (fun hlt=>?_) (fun hge=>?_)
  ·have hlt:i<items.length:=by omega
   have hst:=da (dd g items) i
   have hlt2:=j4 (dd g items) hlt
   have hel:e1.length=L1.length+(bd (dd g items) i).length:=by rw[he1,aC]
   obtain⟨it,bu⟩:∃it,it=items[i]:=⟨_,rfl⟩
   have hx:items[i]?=some it:=by rw[bu];exact aD hlt
   have hmem:it∈items:=by rw[bu];exact aO hlt
   have i0:((0:Int)<=(i:Int))=True:=eq_true aa
   have iL:((i:Int)<(items.length:Int))=True:=eq_true aa
   have iT:(i<items.length)=True:=eq_true hlt
   have hgi:=hgI it hmem
   have hit2:dd g items i=jQ i++cK g it:=by rw[dd,ea hlt,bu]
   obtain⟨star,qual,⟨k0,o0,n0,v0,q0,m0,ks0,ss0⟩,as_⟩:=it
   rw[hit2] at hlt2
   simp only[ll] at hlt2
   simp only[tt,seval,cT hx Item.row_len,i0,iT,Item.row_mk,al]
   have hcm:=Nat.zero_le (cK g (Item.mk star qual (Expr.mk k0 o0 n0 v0 q0 m0 ks0 ss0) as_)).length
   refine cS (kx full i e1 av) ?_ ?_<;>simp only[tt,seval]
   cases star
   case true=>
    have hi3:cK g (.mk true qual (Expr.mk k0 o0 n0 v0 q0 m0 ks0 ss0) as_)=cF qual++[Dp]:=rfl
    rw[hi3] at hlt2 hit2
    simp only[ll] at hlt2
    simp only[tt,seval]
    refine cS (pT full qual (e1++jQ i) av) ?_ ?_<;>simp only[tt,seval]
    refine cS (gO full ⟨#[42]⟩ (e1++jQ i++cF qual) av) ?_ ?_<;>simp only[tt,seval,hi19]
    try rw[eS i aa]
    refine⟨[.ren 10000034 10000042],ah,ah,?_⟩
    simp only[tt,seval,ol]
    exact⟨[(9000,.str [.s 10000042 (e1++jQ i++cF qual++[gT ⟨#[42]⟩]).length,.v (.bool full)]),(10000042,.arr 150 (e1++jQ i++cF qual++[gT ⟨#[42]⟩]).length ((e1++jQ i++cF qual++[gT ⟨#[42]⟩]).flatMap Tok.row) none),(3,.str [.v (.bool distinct),.sl items.length (items.flatMap Item.row) none,.sl from_.length (from_.flatMap Source.row) none,.sl where_.length (where_.flatMap Expr.row) none,.sl order.length (order.flatMap SortKey.row) none,.v (.int .i64 limit)])],none,ak rfl (ak rfl (ak rfl (ao _))),aq _,⟨i+1,e1++jQ i++cF qual++[gT ⟨#[42]⟩],rfl,aa,by rw[hst,he1,hit2];simp [Dp,aL],rfl,rfl⟩,aB⟩
   case false=>
    have hx0:jk 96 [.ag (ar (Expr.mk k0 o0 n0 v0 q0 m0 ks0 ss0).row)] full (g (Expr.mk k0 o0 n0 v0 q0 m0 ks0 ss0)):=hgi rfl
    have hi3:cK g (.mk false qual (Expr.mk k0 o0 n0 v0 q0 m0 ks0 ss0) as_)=g (Expr.mk k0 o0 n0 v0 q0 m0 ks0 ss0)++cQ as_:=rfl
    rw[hi3] at hlt2 hit2
    generalize g (Expr.mk k0 o0 n0 v0 q0 m0 ks0 ss0)=le at *
    simp only[ll] at hlt2
    simp only[tt,seval]
    refine cS (hx0 (e1++jQ i) av) ?_ ?_<;>simp only[tt,seval,al]
    refine cS (DZ full as_ (e1++jQ i++le) av) ?_ ?_<;>simp only[tt,seval,hi19]
    try rw[eS i aa]
    refine⟨[],?_⟩
    simp only[tt,seval,ol]
    exact⟨[(9000,.str [.s 10000042 (e1++jQ i++le++cQ as_).length,.v (.bool full)]),(10000042,.arr 150 (e1++jQ i++le++cQ as_).length ((e1++jQ i++le++cQ as_).flatMap Tok.row) none),(3,.str [.v (.bool distinct),.sl items.length (items.flatMap Item.row) none,.sl from_.length (from_.flatMap Source.row) none,.sl where_.length (where_.flatMap Expr.row) none,.sl order.length (order.flatMap SortKey.row) none,.v (.int .i64 limit)])],none,ak rfl (ak rfl (ak rfl (ao _))),aq _,⟨i+1,e1++jQ i++le++cQ as_,rfl,aa,by rw[hst,he1,hit2];simp [aL],rfl,rfl⟩,aB⟩
  have hie:i=items.length:=by omega
  subst hie
  have hel19:e1.length=L1.length+(bd (dd g items) items.length).length:=by rw[he1,aC]
  clear hi hge
  refine cS (Jc full e1 av) ?_ ?_<;>simp only[tt,seval]
  refine fun _=>?_
  obtain⟨L2,hL2⟩:∃L2,L2=e1++[kT 3]:=⟨_,rfl⟩
  have hl2:L2.length=e1.length+1:=by rw[hL2];simp only[ll]
  rw[<-hL2]
  refine dLoop.gh [.ren 10000045 10000057] ⟨ah,ah,?_⟩
  refine dLoop0.introR (fun f L p=>∃(i:Nat) (es:List Tok),f 49=vi i/\i<=from_.length/\es=L2++bd (dR g from_) i/\L=[(9000,.str [.s 10000057 (es).length,.v (.bool full)]),(10000057,.arr 150 (es).length ((es).flatMap Tok.row) none),(3,.str [.v (.bool distinct),.sl items.length (items.flatMap Item.row) none,.sl from_.length (from_.flatMap Source.row) none,.sl where_.length (where_.flatMap Expr.row) none,.sl order.length (order.flatMap SortKey.row) none,.v (.int .i64 limit)])]/\p=none) (fun f _ _=>(from_.length-eH (f 49)).toNat) [(9000,.str [.s 10000057 (L2).length,.v (.bool full)]),(10000057,.arr 150 (L2).length ((L2).flatMap Tok.row) none),(3,.str [.v (.bool distinct),.sl items.length (items.flatMap Item.row) none,.sl from_.length (from_.flatMap Source.row) none,.sl where_.length (where_.flatMap Expr.row) none,.sl order.length (order.flatMap SortKey.row) none,.v (.int .i64 limit)])] none ⟨ak rfl (ak rfl (ak rfl (ao _))),aq _,?_⟩ ?_
  ·simp only[tt,seval]
   exact⟨0,L2,rfl,aa,(List.append_nil _).symm,rfl⟩
  rintro g' L p ⟨i,e2,hi49,hi,he2,rfl,rfl⟩
  simp only[tt,seval] at hi49
  simp only[tt,seval,hi49,Int.ofNat_lt]
  refine ab (fun hlt=>?_) (fun hge=>?_)
  ·have hlt:i<from_.length:=by omega
   have hst:=da (dR g from_) i
   have hlt2:=j4 (dR g from_) hlt
   have hel:e2.length=L2.length+(bd (dR g from_) i).length:=by rw[he2,aC]
   obtain⟨it,bu⟩:∃it,it=from_[i]:=⟨_,rfl⟩
   have hx:from_[i]?=some it:=by rw[bu];exact aD hlt
   have hmem:it∈from_:=by rw[bu];exact aO hlt
   have i0:((0:Int)<=(i:Int))=True:=eq_true aa
   have iL:((i:Int)<(from_.length:Int))=True:=eq_true aa
   have iT:(i<from_.length)=True:=eq_true hlt
   have hgi:=hgS it hmem
   have hso:=fH cJ hmem
   have hit2:dR g from_ i=fy g i it:=by rw[dR,ea hlt,bu]
   rw[hit2] at hlt2
   obtain⟨table,as_,on⟩:=it
   rw[dt,aT] at hso
   simp only[tt,seval,cT hx Source.row_len,i0,iT,Source.row_mk]
   refine cS (E4 full i (Source.mk table as_ on) g (by show on.length<=_;omega) hgi e2 av) ?_ ?_<;>simp only[tt,seval,hi49,Source.row_mk]
   try rw[eS i aa]
   refine⟨[],?_⟩
   simp only[tt,seval,ol]
   exact⟨[(9000,.str [.s 10000057 (e2++fy g i (Source.mk table as_ on)).length,.v (.bool full)]),(10000057,.arr 150 (e2++fy g i (Source.mk table as_ on)).length ((e2++fy g i (Source.mk table as_ on)).flatMap Tok.row) none),(3,.str [.v (.bool distinct),.sl items.length (items.flatMap Item.row) none,.sl from_.length (from_.flatMap Source.row) none,.sl where_.length (where_.flatMap Expr.row) none,.sl order.length (order.flatMap SortKey.row) none,.v (.int .i64 limit)])],none,ak rfl (ak rfl (ak rfl (ao _))),aq _,⟨i+1,e2++fy g i (Source.mk table as_ on),rfl,aa,by rw[hst,he2,hit2];simp [aL],rfl,rfl⟩,aB⟩
  have hie:i=from_.length:=by omega
  subst hie
  have hel49:e2.length=L2.length+(bd (dR g from_) from_.length).length:=by rw[he2,aC]
  clear hi hge
  refine cS (Ga full where_ g aa hgW e2 av) ?_ ?_<;>simp only[tt,seval]
  refine fun _=>?_
  obtain⟨L3,hL3⟩:∃L3,L3=e2++nA g where_:=⟨_,rfl⟩
  have hl3:L3.length=e2.length+(nA g where_).length:=by rw[hL3];simp only[ll]
  rw[<-hL3]
  refine dLoop.gh [.ren 10000062 10000085] ⟨ah,ah,?_⟩
  refine dLoop0.introR (fun f L p=>∃(i:Nat) (es:List Tok),f 66=vi i/\i<=order.length/\es=L3++bd (eY g order) i/\L=[(9000,.str [.s 10000085 (es).length,.v (.bool full)]),(10000085,.arr 150 (es).length ((es).flatMap Tok.row) none),(3,.str [.v (.bool distinct),.sl items.length (items.flatMap Item.row) none,.sl from_.length (from_.flatMap Source.row) none,.sl where_.length (where_.flatMap Expr.row) none,.sl order.length (order.flatMap SortKey.row) none,.v (.int .i64 limit)])]/\p=none) (fun f _ _=>(order.length-eH (f 66)).toNat) [(9000,.str [.s 10000085 (L3).length,.v (.bool full)]),(10000085,.arr 150 (L3).length ((L3).flatMap Tok.row) none),(3,.str [.v (.bool distinct),.sl items.length (items.flatMap Item.row) none,.sl from_.length (from_.flatMap Source.row) none,.sl where_.length (where_.flatMap Expr.row) none,.sl order.length (order.flatMap SortKey.row) none,.v (.int .i64 limit)])] none ⟨ak rfl (ak rfl (ak rfl (ao _))),aq _,?_⟩ ?_
  ·simp only[tt,seval]
   exact⟨0,L3,rfl,aa,(List.append_nil _).symm,rfl⟩
  rintro g' L p ⟨i,e3,hi66,hi,he3,rfl,rfl⟩
  simp only[tt,seval] at hi66
  simp only[tt,seval,hi66,Int.ofNat_lt]
  refine ab (fun hlt=>?_) (fun hge=>?_)
  ·have hlt:i<order.length:=by omega
   have hst:=da (eY g order) i
   have hlt2:=j4 (eY g order) hlt
   have hel:e3.length=L3.length+(bd (eY g order) i).length:=by rw[he3,aC]
   obtain⟨it,bu⟩:∃it,it=order[i]:=⟨_,rfl⟩
   have hx:order[i]?=some it:=by rw[bu];exact aD hlt
   have hmem:it∈order:=by rw[bu];exact aO hlt
   have i0:((0:Int)<=(i:Int))=True:=eq_true aa
   have iL:((i:Int)<(order.length:Int))=True:=eq_true aa
   have iT:(i<order.length)=True:=eq_true hlt
   have hgi:=hgO it hmem
   have hit2:eY g order i=(if i=0 then [kT 7,kT 8] else [dQ])++iF g it:=by rw[eY,ea hlt,bu]
   obtain⟨⟨k0,o0,n0,v0,q0,m0,ks0,ss0⟩,desc⟩:=it
   have hx0:jk 96 [.ag (ar (Expr.mk k0 o0 n0 v0 q0 m0 ks0 ss0).row)] full (g (Expr.mk k0 o0 n0 v0 q0 m0 ks0 ss0)):=hgi
   have hkt:iF g (SortKey.mk (Expr.mk k0 o0 n0 v0 q0 m0 ks0 ss0) desc)=g (Expr.mk k0 o0 n0 v0 q0 m0 ks0 ss0)++(if desc=true then [kT 10] else []):=rfl
   rw[hkt] at hit2
   generalize g (Expr.mk k0 o0 n0 v0 q0 m0 ks0 ss0)=le at *
   rw[hit2] at hlt2
   have hop:0<=(if desc=true then [kT 10] else []).length:=Nat.zero_le _
   simp only[tt,seval,cT hx SortKey.row_len,i0,iT,SortKey.row_mk,al]
   refine ab (fun hc=>?_) (fun hc=>?_)
   ·have hc:i=0:=by omega
    rw[if_pos hc] at hlt2 hit2
    simp only[ll] at hlt2
    have hcm:jQ i=[]:=if_neg aa
    have hcom:=kx full i
    rw[hcm] at hcom
    refine cS (DW full e3 av) ?_ ?_<;>simp only[tt,seval]
    refine cS (hcom (e3++[kT 7,kT 8]) av) ?_ ?_<;>simp only[tt,seval]
    refine cS (hx0 (e3++[kT 7,kT 8]++[]) av) ?_ ?_<;>simp only[tt,seval,hi66,al]
    cases desc
    case true=>
     rw[if_pos rfl] at hlt2 hit2
     simp only[ll] at hlt2
     simp only[tt,seval]
     refine cS (GT full (e3++[kT 7,kT 8]++le) av) ?_ ?_<;>simp only[tt,seval,hi66]
     try rw[eS i aa]
     refine⟨[],?_⟩
     simp only[tt,seval,ol]
     exact⟨[(9000,.str [.s 10000085 (e3++[kT 7,kT 8]++le++[kT 10]).length,.v (.bool full)]),(10000085,.arr 150 (e3++[kT 7,kT 8]++le++[kT 10]).length ((e3++[kT 7,kT 8]++le++[kT 10]).flatMap Tok.row) none),(3,.str [.v (.bool distinct),.sl items.length (items.flatMap Item.row) none,.sl from_.length (from_.flatMap Source.row) none,.sl where_.length (where_.flatMap Expr.row) none,.sl order.length (order.flatMap SortKey.row) none,.v (.int .i64 limit)])],none,ak rfl (ak rfl (ak rfl (ao _))),aq _,⟨i+1,e3++[kT 7,kT 8]++le++[kT 10],rfl,aa,by rw[hst,he3,hit2];simp [aL],rfl,rfl⟩,aB⟩
    case false=>
     rw[if_neg Bool.false_ne_true] at hlt2 hit2
     simp only[tt,seval]
     try rw[eS i aa]
     refine⟨[.ren 10000081 10000085],ah,ah,?_⟩
     simp only[tt,seval,ol]
     exact⟨[(9000,.str [.s 10000085 (e3++[kT 7,kT 8]++le).length,.v (.bool full)]),(10000085,.arr 150 (e3++[kT 7,kT 8]++le).length ((e3++[kT 7,kT 8]++le).flatMap Tok.row) none),(3,.str [.v (.bool distinct),.sl items.length (items.flatMap Item.row) none,.sl from_.length (from_.flatMap Source.row) none,.sl where_.length (where_.flatMap Expr.row) none,.sl order.length (order.flatMap SortKey.row) none,.v (.int .i64 limit)])],none,ak rfl (ak rfl (ak rfl (ao _))),aq _,⟨i+1,e3++[kT 7,kT 8]++le,rfl,aa,by rw[hst,he3,hit2];simp [aL],rfl,rfl⟩,aB⟩
   ·have hc:¬i=0:=by omega
    rw[if_neg hc] at hlt2 hit2
    simp only[ll] at hlt2
    have hcm:jQ i=[dQ]:=if_pos aa
    have hcom:=kx full i
    rw[hcm] at hcom
    refine cS (hcom (e3) av) ?_ ?_<;>simp only[tt,seval]
    refine cS (hx0 (e3++[dQ]) av) ?_ ?_<;>simp only[tt,seval,hi66,al]
    cases desc
    case true=>
     rw[if_pos rfl] at hlt2 hit2
     simp only[ll] at hlt2
     simp only[tt,seval]
     refine cS (GT full (e3++[dQ]++le) av) ?_ ?_<;>simp only[tt,seval,hi66]
     try rw[eS i aa]
     refine⟨[],?_⟩
     simp only[tt,seval,ol]
     exact⟨[(9000,.str [.s 10000085 (e3++[dQ]++le++[kT 10]).length,.v (.bool full)]),(10000085,.arr 150 (e3++[dQ]++le++[kT 10]).length ((e3++[dQ]++le++[kT 10]).flatMap Tok.row) none),(3,.str [.v (.bool distinct),.sl items.length (items.flatMap Item.row) none,.sl from_.length (from_.flatMap Source.row) none,.sl where_.length (where_.flatMap Expr.row) none,.sl order.length (order.flatMap SortKey.row) none,.v (.int .i64 limit)])],none,ak rfl (ak rfl (ak rfl (ao _))),aq _,⟨i+1,e3++[dQ]++le++[kT 10],rfl,aa,by rw[hst,he3,hit2];simp [aL],rfl,rfl⟩,aB⟩
    case false=>
     rw[if_neg Bool.false_ne_true] at hlt2 hit2
     simp only[tt,seval]
     try rw[eS i aa]
     refine⟨[.ren 10000081 10000085],ah,ah,?_⟩
     simp only[tt,seval,ol]
     exact⟨[(9000,.str [.s 10000085 (e3++[dQ]++le).length,.v (.bool full)]),(10000085,.arr 150 (e3++[dQ]++le).length ((e3++[dQ]++le).flatMap Tok.row) none),(3,.str [.v (.bool distinct),.sl items.length (items.flatMap Item.row) none,.sl from_.length (from_.flatMap Source.row) none,.sl where_.length (where_.flatMap Expr.row) none,.sl order.length (order.flatMap SortKey.row) none,.v (.int .i64 limit)])],none,ak rfl (ak rfl (ak rfl (ao _))),aq _,⟨i+1,e3++[dQ]++le,rfl,aa,by rw[hst,he3,hit2];simp [aL],rfl,rfl⟩,aB⟩
  have hie:i=order.length:=by omega
  subst hie
  have hel66:e3.length=L3.length+(bd (eY g order) order.length).length:=by rw[he3,aC]
  clear hi hge
  refine ab (fun hlm=>?_) (fun hlm=>?_)
  ·rw[iR,if_pos hlm] at hroom ⊢
   simp only[ll] at hroom
   refine cS (Ii full e3 av) ?_ ?_<;>simp only[tt,seval]
   refine cZ (mf limit aa hlim) ?_ ?_<;>simp only[tt,seval]
   refine cS (tP full 3 (d5 limit) (e3++[kT 11]) av) ?_ ?_<;>simp only[tt,seval]
   refine⟨.tu [],_,⟨rfl,jS (l:=e3++[kT 11]++[Tok.mk 3 (d5 limit) 0]) (by rw[he3,hL3,he2,hL2,he1,hL1];simp [iT,aL])⟩,am ?_⟩
   simp only[tt,seval]
  ·rw[iR,if_neg hlm] at hroom ⊢
   simp only[ll] at hroom
   simp only[tt,seval]
   refine⟨.tu [],_,⟨rfl,jS (l:=e3) (by rw[he3,hL3,he2,hL2,he1,hL1];simp [aL])⟩,am ?_⟩
   simp only[tt,seval]
theorem Ij (full:Bool) (e:Expr):fmE e=true->Rg e->szExpr e<=1048576->Am full e (dH full e):=by
 refine ku (F1:=tJ) (F2:=zU) (F3:=iO full) (P:=fun e f n t=>f=true->Rg e->szExpr e<=1048576->Am full e t) (fun e gf gn g hg hf hr hsz=>?_) e
 have hb:∀x,f6 x e->gf x=true->Am full x (g x):=fun x hx hx'=>hg x hx hx' (qp hr hx) (Nat.le_trans (gD hx) hsz)
 have hs:∀q∈e.sub,q.lim<=9223372036854775807/\szQuery q<=1048576:=fun q hq=>⟨(uL hr hq).1,Nat.le_trans (lf hq) hsz⟩
 obtain⟨kind,op,not,val,qual,name,kids,sub⟩:=e
 obtain⟨h1,h2,h3⟩:=jR hf
 refine Br kind op not val qual name kids sub full gf g hf hr.num (fun x hx=>hb x (.inl hx) (h2 x hx)) fun q hq=>?_
 refine rR full gf g q (h3 q hq) (hs q hq).1 (hs q hq).2 fun x hx=>hb x (.inr ⟨q,hq,hx⟩) ?_
 have h4:=h3 q hq
 obtain⟨d,it,fr,wh,od,li⟩:=q
 exact (ff h4).2.2.2.2.2.2.2 x hx
end Go.Proofs.YtbodcedhmccenaaGreatDoor
