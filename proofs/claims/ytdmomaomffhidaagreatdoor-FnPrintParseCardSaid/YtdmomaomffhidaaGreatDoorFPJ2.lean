/-
  The program's printer.
  Conditions: none.
-/
import Derived.Test.YtdmomaomffhidaaGreatDoorFPJ1
set_option linter.unusedVariables false
set_option linter.unusedSimpArgs false
set_option linter.unusedSectionVars false
set_option linter.unnecessarySimpa false
set_option maxRecDepth 8000
namespace Go.Proofs.YtdmomaomffhidaaGreatDoor
open Go Go.Dv
open Go.Vc (D cU cV cF b0)
open Go.RowKit (Below)
def jg (fn:FuncId) (args:List S) (full:Bool) (l:List Tok):Prop:=∀out:List Tok,out.length+l.length<=1000000->Cl Tryz.prog fn (.c (.p 9000 0)::args) [[.ow 129 (out).length ((out).flatMap Tok.row) none,.v (.bool full)]] fun r os=>r = .tu []/\os=[[.ow 129 (out++l).length ((out++l).flatMap Tok.row) none,.v (.bool full)]]
theorem tT (full:Bool) (k:Int) (s:ByteArray):jg 92 [vi k,vs s] full ([(Tok.mk k s 0)]):=by
 intro out hroom
 simp only[ll] at hroom
 refine ai ac false Tryz.func92 rfl ae ?_
 simp only[Tryz.f92,tt,seval]
 refine j3 ?_
 rw[ey (out),dB (out) (Tok.mk k s 0)]
 refine⟨.tu [],_,⟨rfl,jT (l:=out++[(Tok.mk k s 0)]) (by rfl)⟩,ap ?_⟩
 simp only[tt,seval]
theorem nr (full:Bool) (s:ByteArray):jg 136 [vs s] full ([nT s]):=by
 intro out hroom
 simp only[ll] at hroom
 refine ai ac false Tryz.func136 rfl ae ?_
 simp only[Tryz.f136,tt,seval]
 refine cS (tT full 2 s out au) ?_ ?_<;>simp only[tt,seval]
 refine⟨.tu [],_,⟨rfl,jT (l:=out++[(Tok.mk 2 s 0)]) (by rfl)⟩,ap ?_⟩
 simp only[tt,seval]
theorem hD (full:Bool) (s:ByteArray):jg 88 [vs s] full ([gT s]):=by
 intro out hroom
 simp only[ll] at hroom
 refine ai ac false Tryz.func88 rfl ae ?_
 simp only[Tryz.f88,tt,seval]
 refine cS (tT full 5 s out au) ?_ ?_<;>simp only[tt,seval]
 refine⟨.tu [],_,⟨rfl,jT (l:=out++[(Tok.mk 5 s 0)]) (by rfl)⟩,ap ?_⟩
 simp only[tt,seval]
theorem kE (full:Bool) (i:Nat):jg 86 [vi i] full (kB i):=by
 intro out hroom
 refine ai ac false Tryz.func86 rfl ae ?_
 simp only[Tryz.f86,tt,seval]
 refine ab (fun hc=>?_) (fun hc=>?_)
 ·rw[kB,if_pos aa] at hroom ⊢
  simp only[ll] at hroom
  refine cS (hD full ⟨#[44]⟩ out au) ?_ ?_<;>simp only[tt,seval]
  refine⟨.tu [],_,⟨rfl,jT (l:=out++[gT ⟨#[44]⟩]) (by rfl)⟩,ap ?_⟩
  simp only[tt,seval]
 ·rw[kB,if_neg aa] at hroom ⊢
  simp only[tt,seval]
  refine⟨.tu [],_,⟨rfl,jT (l:=out) (by first|rfl|exact (List.append_nil _).symm)⟩,ap ?_⟩
  simp only[tt,seval]
theorem An (w:ByteArray) (l:List ByteArray) (hw:w.size<=1000) (hl:l≠[]) (hs:∀s∈l,s.size<=1000) (hn:l.length<=1000) (h1:Lib.splitB ⟨#[32]⟩ 0 (Lib.countB w ⟨#[32]⟩) w=l) (h2:Lib.countB w ⟨#[32]⟩+1=l.length):Cl Tryz.prog 178 [vs w,vs ⟨#[32]⟩] [] fun r _=>r = .c (.sl l.length (l.flatMap srow) none):=
 Cl.ofNew ae [.string w,.string ⟨#[32]⟩] fun w0 hg=>by
  obtain⟨m,hm⟩:=ub hg
  refine (Any.strings_Split Tryz.lays146 ae w ⟨#[32]⟩ m w0 aa hm ah).mono ?_
  rintro e w' ⟨rfl,rfl⟩
  rw[h1,h2]
  refine⟨_,_,rfl,rfl,by rfl,fun β=>sX w0 _ _ l hl (fun s hs'=>Nat.le_trans (hs s hs') ah) (Nat.le_trans hn ah) β (Go.heap_alloc_new w0 _),⟨rfl,rfl,rfl,by simp,fun i hi=>Go.heap_alloc_old w0 _ hi⟩⟩
def wT (s:ByteArray):Tok:=⟨1,s,0⟩
theorem DO (full:Bool) (w:ByteArray) (l:List ByteArray) (hll:l.length<=1000) (hsp:Cl Tryz.prog 178 [vs w,vs ⟨#[32]⟩] [] fun r _=>r = .c (.sl l.length (l.flatMap srow) none)):jg 85 [vs w] full (l.map wT):=by
 intro out hroom
 rw[List.length_map] at hroom
 refine ai ac false Tryz.func85 rfl ae ?_
 simp only[Tryz.f85,tt,seval]
 refine cZ (hsp) ?_ ?_<;>simp only[tt,seval]
 refine fun _=>?_
 refine dLoop.gh [.ren 9200 10000015] ⟨ah,ah,?_⟩
 refine dLoop0.intro (fun f L p=>∃(i:Nat) (es:List Tok),f 9=vi i/\i<=l.length/\es=out++(l.take i).map wT/\L=[(9000,.str [.s 10000015 (es).length,.v (.bool full)]),(10000015,.arr 129 (es).length ((es).flatMap Tok.row) none)]/\p=none) (fun f _ _=>(l.length-eN (f 9)).toNat) [(9000,.str [.s 10000015 (out).length,.v (.bool full)]),(10000015,.arr 129 (out).length ((out).flatMap Tok.row) none)] none ⟨al rfl (al rfl (ao _)),aq _,?_⟩ ?_
 ·simp only[tt,seval]
  exact⟨0,out,rfl,aa,(List.append_nil _).symm,rfl⟩
 ·rintro g' L p ⟨i,es,h9,hi,hes0,rfl,rfl⟩
  simp only[tt,seval] at h9
  simp only[tt,seval,h9,Int.ofNat_lt]
  refine ab (fun hlt=>?_) (fun hge=>?_)
  ·have hel:es.length=out.length+i:=by rw[hes0,aB,List.length_map,List.length_take];omega
   refine⟨aa,aa,_,aD fx (aA hlt),jZ _ _,?_⟩
   simp only[tt,seval,srow]
   refine cS (tT full 1 l[i] es (by simp only[ll];omega)) ?_ ?_<;>simp only[tt,seval,h9]
   try rw[dY i aa]
   exact⟨[(9000,.str [.s 10000015 (es++[Tok.mk 1 l[i] 0]).length,.v (.bool full)]),(10000015,.arr 129 (es++[Tok.mk 1 l[i] 0]).length ((es++[Tok.mk 1 l[i] 0]).flatMap Tok.row) none)],none,al rfl (al rfl (ao _)),aq _,⟨i+1,es++[Tok.mk 1 l[i] 0],rfl,aa,by rw[hes0,List.take_succ_eq_append_getElem hlt,List.map_append,aK];rfl,rfl,rfl⟩,az⟩
  ·have hie:i=l.length:=by omega
   subst hie
   rw[List.take_length] at hes0
   subst hes0
   refine⟨.tu [],_,⟨rfl,jT (l:=out++l.map wT) (by rfl)⟩,ap ?_⟩
   simp only[tt,seval]
theorem DP:∀k:Fin 29,1<=k.1->Lib.splitB ⟨#[32]⟩ 0 (Lib.countB (kw k.1) ⟨#[32]⟩) (kw k.1)=[kw k.1]/\Lib.countB (kw k.1) ⟨#[32]⟩=0:=by decide +kernel
theorem eA (full:Bool) (k:Nat) (h1:1<=k) (h2:k<=28):jg 85 [vs (kw k)] full ([kT k]):=by
 obtain⟨a,b⟩:=DP ⟨k,aa⟩ h1
 have:=xe k
 exact DO full (kw k) [kw k] (by simp) (An (kw k) [kw k] aa (by simp) (fun s hs=>by rw[List.mem_singleton.1 hs];omega) (by simp) a (by rw[b];rfl))
theorem DQ (full:Bool):jg 85 [vs ⟨#[79,82,68,69,82,32,66,89]⟩] full ([kT 7,kT 8]):=DO full ⟨#[79,82,68,69,82,32,66,89]⟩ [kw 7,kw 8] ah (An ⟨#[79,82,68,69,82,32,66,89]⟩ [kw 7,kw 8] ah ah ah ah (by decide +kernel) (by decide +kernel))
theorem FW (full:Bool):jg 85 [vs ⟨#[83,69,76,69,67,84]⟩] full ([kT 1]):=eA full 1 ah ah
theorem BC (full:Bool):jg 85 [vs ⟨#[68,73,83,84,73,78,67,84]⟩] full ([kT 2]):=eA full 2 ah ah
theorem J3 (full:Bool):jg 85 [vs ⟨#[70,82,79,77]⟩] full ([kT 3]):=eA full 3 ah ah
theorem J4 (full:Bool):jg 85 [vs ⟨#[74,79,73,78]⟩] full ([kT 4]):=eA full 4 ah ah
theorem K4 (full:Bool):jg 85 [vs ⟨#[79,78]⟩] full ([kT 5]):=eA full 5 ah ah
theorem I5 (full:Bool):jg 85 [vs ⟨#[87,72,69,82,69]⟩] full ([kT 6]):=eA full 6 ah ah
theorem GL (full:Bool):jg 85 [vs ⟨#[68,69,83,67]⟩] full ([kT 10]):=eA full 10 ah ah
theorem I6 (full:Bool):jg 85 [vs ⟨#[76,73,77,73,84]⟩] full ([kT 11]):=eA full 11 ah ah
theorem KP (full:Bool):jg 85 [vs ⟨#[65,83]⟩] full ([kT 12]):=eA full 12 ah ah
theorem J5 (full:Bool):jg 85 [vs ⟨#[65,78,68]⟩] full ([kT 13]):=eA full 13 ah ah
theorem KQ (full:Bool):jg 85 [vs ⟨#[79,82]⟩] full ([kT 14]):=eA full 14 ah ah
theorem J6 (full:Bool):jg 85 [vs ⟨#[78,79,84]⟩] full ([kT 15]):=eA full 15 ah ah
theorem KR (full:Bool):jg 85 [vs ⟨#[73,83]⟩] full ([kT 16]):=eA full 16 ah ah
theorem K5 (full:Bool):jg 85 [vs ⟨#[73,78]⟩] full ([kT 17]):=eA full 17 ah ah
theorem DR (full:Bool):jg 85 [vs ⟨#[66,69,84,87,69,69,78]⟩] full ([kT 18]):=eA full 18 ah ah
theorem FX (full:Bool):jg 85 [vs ⟨#[69,88,73,83,84,83]⟩] full ([kT 19]):=eA full 19 ah ah
theorem J7 (full:Bool):jg 85 [vs ⟨#[78,85,76,76]⟩] full ([kT 20]):=eA full 20 ah ah
end Go.Proofs.YtdmomaomffhidaaGreatDoor
set_option maxRecDepth 8000
namespace Go.Proofs.YtdmomaomffhidaaGreatDoor
open Go Go.Dv
open Go.Vc (D cU cV cF b0)
theorem Ao (full is:Bool):jg 140 [vb is] full (bE is):=by
 intro out hroom
 cases is
 case true=>
  have hroom:out.length+([kT 15]:List Tok).length<=1000000:=hroom
  refine ai ac false Tryz.func140 rfl ae ?_
  simp only[Tryz.f140,tt,seval]
  refine cS (J6 full out hroom) ?_ ?_<;>simp only[tt,seval]
  refine⟨.tu [],_,⟨rfl,jT (l:=out++[kT 15]) (by rfl)⟩,ap ?_⟩
  simp only[tt,seval]
 case false=>
  refine ai ac false Tryz.func140 rfl ae ?_
  simp only[Tryz.f140,tt,seval]
  refine⟨.tu [],_,⟨rfl,jT (l:=out) (by exact (List.append_nil _).symm)⟩,ap ?_⟩
  simp only[tt,seval]
theorem DS {v:Val} (h:dz v=true) (h1:¬v.kind=1) (h2:¬v.kind=2):∃k,1<=k/\k<=28/\qL v=kw k/\eX v=kT k:=by
 have hv:=h
 unfold dz at h
 by_cases h0:v.kind=0
 ·exact⟨20,ah,ah,by unfold qL;simp [h0,hv];rfl,by unfold eX;simp [h0]⟩
 ·rw[if_neg h0,if_neg h1,if_neg h2] at h
  by_cases h3:v.kind=3
  ·by_cases h4:v.num=1
   ·exact⟨21,ah,ah,by unfold qL;simp [h3,h4,hv];rfl,by unfold eX;simp [h3,h4]⟩
   ·exact⟨22,ah,ah,by unfold qL;simp [h3,h4,hv];rfl,by unfold eX;simp [h3,h4]⟩
  ·rw[if_neg h3] at h;cases h
theorem J8 (full:Bool) (v:Val) (h:jp v=true) (h0 : -9223372036854775808<=v.num) (h1:v.num<=9223372036854775807):jg 135 [.ag (ar v.row)] full ([eX v]):=by
 intro out hroom
 have hroom:out.length+1<=1000000:=hroom
 simp only[jp,Bool.and_eq_true,decide_eq_true_eq] at h
 rw[Val.row]
 refine ai ac false Tryz.func135 rfl ae ?_
 simp only[Tryz.f135,tt,seval]
 refine ab (fun k1=>?_) (fun k1=>?_)
 ·have hl:eX v=⟨3,dj v.num,0⟩:=by rw[eX,if_pos k1];rfl
  rw[hl]
  refine cZ (m6 v.num h0 h1) ?_ ?_<;>simp only[tt,seval]
  refine cS (tT full 3 (dj v.num) out au) ?_ ?_<;>simp only[tt,seval]
  refine⟨.tu [],_,⟨rfl,jT (l:=out++[(Tok.mk 3 (dj v.num) 0)]) (by rfl)⟩,ap ?_⟩
  simp only[tt,seval]
 refine ab (fun k2=>?_) (fun k2=>?_)
 ·have hl:eX v=⟨4,v.text,0⟩:=by rw[eX,if_neg k1,if_pos k2]
  rw[hl]
  refine cS (tT full 4 v.text out au) ?_ ?_<;>simp only[tt,seval]
  refine⟨.tu [],_,⟨rfl,jT (l:=out++[(Tok.mk 4 v.text 0)]) (by rfl)⟩,ap ?_⟩
  simp only[tt,seval]
 obtain⟨k,b1,b2,hv,hl⟩:=DS h.1 k1 k2
 rw[hl]
 refine cZ (uf v h0 h1 aa) ?_ ?_<;>simp only[tt,seval,Val.row]
 rw[hv]
 refine cS (eA full k b1 b2 out au) ?_ ?_<;>simp only[tt,seval]
 refine⟨.tu [],_,⟨rfl,jT (l:=out++[kT k]) (by rfl)⟩,ap ?_⟩
 simp only[tt,seval]
theorem pV (full:Bool) (q:ByteArray):jg 87 [vs q] full (cH q):=by
 intro out hroom
 refine ai ac false Tryz.func87 rfl ae ?_
 simp only[Tryz.f87,tt,seval]
 refine ab (fun hq=>?_) (fun hq=>?_)
 ·have hq:¬q=⟨#[]⟩:=by simpa using hq
  rw[cH,if_neg hq] at hroom ⊢
  simp only[ll] at hroom
  refine cS (nr full q out au) ?_ ?_<;>simp only[tt,seval]
  refine cS (hD full ⟨#[46]⟩ (out++[nT q]) au) ?_ ?_<;>simp only[tt,seval]
  refine⟨.tu [],_,⟨rfl,jT (l:=out++[nT q]++[gT ⟨#[46]⟩]) (by simp [Jm])⟩,ap ?_⟩
  simp only[tt,seval]
 ·have hq:q=⟨#[]⟩:=by simpa using hq
  rw[cH,if_pos hq] at hroom ⊢
  simp only[tt,seval]
  refine⟨.tu [],_,⟨rfl,jT (l:=out) (by first|rfl|exact (List.append_nil _).symm)⟩,ap ?_⟩
  simp only[tt,seval]
theorem DT (full:Bool) (q:ByteArray):jg 89 [vs q] full (dh q):=by
 intro out hroom
 refine ai ac false Tryz.func89 rfl ae ?_
 simp only[Tryz.f89,tt,seval]
 refine ab (fun hq=>?_) (fun hq=>?_)
 ·have hq:¬q=⟨#[]⟩:=by simpa using hq
  rw[dh,if_neg hq] at hroom ⊢
  simp only[ll] at hroom
  refine cS (KP full out au) ?_ ?_<;>simp only[tt,seval]
  refine cS (nr full q (out++[kT 12]) au) ?_ ?_<;>simp only[tt,seval]
  refine⟨.tu [],_,⟨rfl,jT (l:=out++[kT 12]++[nT q]) (by simp)⟩,ap ?_⟩
  simp only[tt,seval]
 ·have hq:q=⟨#[]⟩:=by simpa using hq
  rw[dh,if_pos hq] at hroom ⊢
  simp only[tt,seval]
  refine⟨.tu [],_,⟨rfl,jT (l:=out) (by first|rfl|exact (List.append_nil _).symm)⟩,ap ?_⟩
  simp only[tt,seval]
theorem KS:j1 1=⟨#[79,82]⟩:=rfl
theorem Jn:j1 2=⟨#[65,78,68]⟩:=rfl
theorem JH:j1 15=⟨#[78,79,84]⟩:=rfl
theorem rT (full:Bool) (op:Int):jg 137 [vi op] full ([d5 op]):=by
 intro out hroom
 have hroom:out.length+1<=1000000:=hroom
 by_cases h1:op=1
 ·subst h1
  refine ai ac false Tryz.func137 rfl ae ?_
  simp only[Tryz.f137,tt,seval]
  refine cZ (fZ 1) ?_ ?_<;>simp only[tt,seval]
  refine cS (KQ full out au) ?_ ?_<;>simp only[tt,seval,KS]
  refine⟨.tu [],_,⟨rfl,jT (l:=out++[kT 14]) (by rfl)⟩,ap ?_⟩
  simp only[tt,seval]
 by_cases h2:op=2
 ·subst h2
  refine ai ac false Tryz.func137 rfl ae ?_
  simp only[Tryz.f137,tt,seval]
  refine cZ (fZ 2) ?_ ?_<;>simp only[tt,seval]
  refine cS (J5 full out au) ?_ ?_<;>simp only[tt,seval,Jn]
  refine⟨.tu [],_,⟨rfl,jT (l:=out++[kT 13]) (by rfl)⟩,ap ?_⟩
  simp only[tt,seval]
 by_cases h3:op=15
 ·subst h3
  refine ai ac false Tryz.func137 rfl ae ?_
  simp only[Tryz.f137,tt,seval]
  refine cZ (fZ 15) ?_ ?_<;>simp only[tt,seval]
  refine cS (J6 full out au) ?_ ?_<;>simp only[tt,seval,JH]
  refine⟨.tu [],_,⟨rfl,jT (l:=out++[kT 15]) (by rfl)⟩,ap ?_⟩
  simp only[tt,seval]
 refine ai ac false Tryz.func137 rfl ae ?_
 simp only[Tryz.f137,tt,seval]
 simp only[tt,seval,ax h1,ax h2,h3]
 refine cZ (fZ op) ?_ ?_<;>simp only[tt,seval]
 refine cS (hD full (j1 op) out au) ?_ ?_<;>simp only[tt,seval]
 refine⟨.tu [],_,⟨rfl,jT (l:=out++[gT (j1 op)]) (by rw[d5,if_neg (fun h=>h.elim h1 fun h=>h.elim h2 h3)];rfl)⟩,ap ?_⟩
 simp only[tt,seval]
def Ap (full:Bool) (e:Expr) (l:List Tok):Prop:=jg 58 [.ag (ar e.row)] full (l)
def JI (full:Bool) (q:Query) (l:List Tok):Prop:=jg 38 [.ag (ar q.row)] full (l)
theorem GM (full:Bool) (q:Query) (l:List Tok) (h:JI full q l):jg 139 [.ag (ar q.row)] full (jY::(l++[kA])):=by
 intro out hroom
 simp only[ll] at hroom
 have h:jg 38 [.ag (ar q.row)] full (l):=h
 obtain⟨distinct,items,from_,where_,order,limit⟩:=q
 rw[bj] at h ⊢
 refine ai ac false Tryz.func139 rfl ae ?_
 simp only[Tryz.f139,tt,seval]
 refine cS (hD full ⟨#[40]⟩ out au) ?_ ?_<;>simp only[tt,seval]
 refine cS (h (out++[gT ⟨#[40]⟩]) au) ?_ ?_<;>simp only[tt,seval]
 refine cS (hD full ⟨#[41]⟩ (out++[gT ⟨#[40]⟩]++l) au) ?_ ?_<;>simp only[tt,seval]
 refine⟨.tu [],_,⟨rfl,jT (l:=out++[gT ⟨#[40]⟩]++l++[gT ⟨#[41]⟩]) (by simp [jY,kA])⟩,ap ?_⟩
 simp only[tt,seval]
set_option maxHeartbeats 1000000 in
theorem J9 (kind op:Int) (not:Bool) (val:Val) (qual name:ByteArray) (kids:List Expr) (sub:List Query) (full:Bool) (k:Nat) (hk:k<kids.length) (l:List Tok) (hx:Ap full kids[k] l):jg 138 [.ag (ar (Expr.mk kind op not val qual name kids sub).row),vi k] full (kY (Bw full kind op kids k) l):=by
 intro out hroom
 obtain⟨it,bt⟩:∃it,it=kids[k]:=⟨_,rfl⟩
 have hw:(Bw full kind op kids k)=(lp kind op kids k||(full&&decide (nv it<9))):=by rw[Bw,List.getD_eq_getElem?_getD,aA hk,bt];rfl
 rw[hw] at hroom ⊢
 rw[<-bt] at hx
 have hx:jg 58 [.ag (ar it.row)] full (l):=hx
 have hx0:kids[k]?=some it:=by rw[bt];exact aA hk
 have i0:((0:Int)<=(k:Int))=True:=eq_true aa
 have iL:((k:Int)<(kids.length:Int))=True:=eq_true aa
 have hlb:0<=nv it/\nv it<=9:=by unfold nv;exact mb _ _
 have hlv:=mH it
 rw[ak]
 refine ai ac false Tryz.func138 rfl ae ?_
 simp only[Tryz.f138,tt,seval]
 refine cZ (xV kind op not val qual name kids sub k hk) ?_ ?_<;>simp only[tt,seval,ak]
 cases hw1:lp kind op kids k
 case true=>
  rw[hw1] at hroom
  simp only[tt,seval]
  have hroom:out.length+(jY::(l++[kA])).length<=1000000:=hroom
  simp only[ll] at hroom
  refine cS (hD full ⟨#[40]⟩ out au) ?_ ?_<;>simp only[tt,seval,cW hx0 aI,i0,iL,Expr.tk,aI]
  refine cS (hx (out++[gT ⟨#[40]⟩]) au) ?_ ?_<;>simp only[tt,seval]
  refine cS (hD full ⟨#[41]⟩ (out++[gT ⟨#[40]⟩]++l) au) ?_ ?_<;>simp only[tt,seval]
  refine⟨.tu [],_,⟨rfl,jT (l:=out++[gT ⟨#[40]⟩]++l++[gT ⟨#[41]⟩]) (by simp [kY,jY,kA])⟩,ap ?_⟩
  simp only[tt,seval]
 case false=>
  simp only[tt,seval]
  cases full
  case false=>
   rw[hw1] at hroom
   simp only[tt,seval,cW hx0 aI,i0,iL,Expr.tk,aI]
   have hroom:out.length+l.length<=1000000:=hroom
   refine cS (hx out hroom) ?_ ?_<;>simp only[tt,seval]
   refine⟨.tu [],_,⟨rfl,jT (l:=out++l) (by rfl)⟩,ap ?_⟩
   simp only[tt,seval]
  case true=>
   simp only[tt,seval,cW hx0 aI,i0,iL,Expr.tk,aI]
   refine cZ (hlv) ?_ ?_<;>simp only[tt,seval,cW hx0 aI,i0,iL,Expr.tk,aI]
   rw[hw1] at hroom
   by_cases h9:nv it=9
   ·rw[ax (show ¬nv it<9 by omega)] at hroom ⊢
    simp only[tt,seval,h9]
    have hroom:out.length+l.length<=1000000:=hroom
    refine cS (hx out hroom) ?_ ?_<;>simp only[tt,seval]
    refine⟨.tu [],_,⟨rfl,jT (l:=out++l) (by rfl)⟩,ap ?_⟩
    simp only[tt,seval]
   ·rw[aw (show nv it<9 by omega)] at hroom ⊢
    simp only[tt,seval,h9]
    have hroom:out.length+(jY::(l++[kA])).length<=1000000:=hroom
    simp only[ll] at hroom
    refine cS (hD true ⟨#[40]⟩ out au) ?_ ?_<;>simp only[tt,seval,cW hx0 aI,i0,iL,Expr.tk,aI]
    refine cS (hx (out++[gT ⟨#[40]⟩]) au) ?_ ?_<;>simp only[tt,seval]
    refine cS (hD true ⟨#[41]⟩ (out++[gT ⟨#[40]⟩]++l) au) ?_ ?_<;>simp only[tt,seval]
    refine⟨.tu [],_,⟨rfl,jT (l:=out++[gT ⟨#[40]⟩]++l++[gT ⟨#[41]⟩]) (by simp [kY,jY,kA])⟩,ap ?_⟩
    simp only[tt,seval]
theorem FY (full:Bool) (l:List Expr) (g:Expr->List Tok) (hll:l.length<=1048576) (hg:∀x∈l,Ap full x (g x)):jg 91 [.c (.sl l.length (l.flatMap Expr.row) none)] full (pS g l):=by
 intro out hroom
 refine ai ac false Tryz.func91 rfl ae ?_
 simp only[Tryz.f91,tt,seval]
 refine fun _=>?_
 rcases hL:l with _|⟨e,r⟩
 ·rw[hL] at hroom
  simp only[tt,seval]
  refine⟨.tu [],_,⟨rfl,jT (l:=out) (by exact (List.append_nil _).symm)⟩,ap ?_⟩
  simp only[tt,seval]
 ·rw[<-hL]
  have hlen:l.length=r.length+1:=by rw[hL];rfl
  have hw:pS g l=kT 6::g e:=by rw[hL];rfl
  have hx:jg 58 [.ag (ar e.row)] full (g e):=hg e (by rw[hL];simp)
  have hpos:((0:Int)<l.length)=True:=eq_true aa
  rw[hw] at hroom ⊢
  clear hw
  generalize g e=le at *
  simp only[ll] at hroom
  simp only[tt,seval,hpos]
  refine cS (I5 full out au) ?_ ?_<;>simp only[tt,seval,hpos,vM hL aI,cT (aI e),aI]
  refine cS (hx (out++[kT 6]) au) ?_ ?_<;>simp only[tt,seval]
  refine⟨.tu [],_,⟨rfl,jT (l:=out++[kT 6]++le) (by simp)⟩,ap ?_⟩
  simp only[tt,seval]
set_option maxHeartbeats 2000000 in
theorem DU (full:Bool) (i:Nat) (s:Source) (g:Expr->List Tok) (hll:s.on.length<=1048576) (hg:∀x∈s.on,Ap full x (g x)):jg 90 [vi i,.ag (ar s.row)] full (gY g i s):=by
 intro out hroom
 obtain⟨table,as_,on⟩:=s
 have hll:on.length<=1048576:=hll
 have hg:∀x∈on,Ap full x (g x):=hg
 have hol:(on.length<=9223372036854775807)=True:=eq_true aa
 rw[Source.row_mk]
 rcases hL:on with _|⟨e,r⟩
 ·have hle:sw g on=[]:=by rw[hL];rfl
  have hlen:on.length=0:=by rw[hL];rfl
  try rw[<-hL]
  have op:¬(0:Int)<on.length:=by omega
  by_cases hi0:i=0
  ·have ip:¬(0:Int)<i:=by omega
   have hsrc:gY g i (Source.mk table as_ on)=[]++(nT table::(dh as_++[])):=by
    show (if 0<i then (if 0<on.length then [kT 4] else [eK]) else [])++(nT table::(dh as_++sw g on))=_
    rw[hle]
    rw[if_neg aa]
   rw[hsrc] at hroom ⊢
   simp only[ll] at hroom
   refine ai ac false Tryz.func90 rfl ae ?_
   simp only[Tryz.f90,tt,seval]
   simp only[tt,seval,ip]
   have hcm:kB i=[]:=if_neg aa
   have hcom:=kE full i
   rw[hcm] at hcom
   refine cS (hcom out au) ?_ ?_<;>simp only[tt,seval]
   refine cS (nr full table (out++[]) au) ?_ ?_<;>simp only[tt,seval]
   refine cS (DT full as_ (out++[]++[nT table]) au) ?_ ?_<;>simp only[tt,seval,hol,op]
   refine⟨.tu [],_,⟨rfl,jT (l:=out++[]++[nT table]++dh as_) (by simp)⟩,ap ?_⟩
   simp only[tt,seval]
  ·have ip:(0:Int)<i:=by omega
   have hsrc:gY g i (Source.mk table as_ on)=[eK]++(nT table::(dh as_++[])):=by
    show (if 0<i then (if 0<on.length then [kT 4] else [eK]) else [])++(nT table::(dh as_++sw g on))=_
    rw[hle]
    rw[if_pos aa];rw[if_neg aa]
   rw[hsrc] at hroom ⊢
   simp only[ll] at hroom
   refine ai ac false Tryz.func90 rfl ae ?_
   simp only[Tryz.f90,tt,seval]
   simp only[tt,seval,hol,ip,op]
   have hcm:kB i=[eK]:=if_pos aa
   have hcom:=kE full i
   rw[hcm] at hcom
   refine cS (hcom out au) ?_ ?_<;>simp only[tt,seval]
   refine cS (nr full table (out++[eK]) au) ?_ ?_<;>simp only[tt,seval]
   refine cS (DT full as_ (out++[eK]++[nT table]) au) ?_ ?_<;>simp only[tt,seval,hol,op]
   refine⟨.tu [],_,⟨rfl,jT (l:=out++[eK]++[nT table]++dh as_) (by simp)⟩,ap ?_⟩
   simp only[tt,seval]
 ·have hle0:sw g on=kT 5::g e:=by rw[hL];rfl
  have hlen:on.length=r.length+1:=by rw[hL];rfl
  have hxe:jg 58 [.ag (ar e.row)] full (g e):=hg e (by rw[hL];simp)
  try rw[<-hL]
  obtain⟨le,hle1⟩:∃le,le=g e:=⟨_,rfl⟩
  have hle:sw g on=kT 5::le:=by rw[hle0,hle1]
  rw[<-hle1] at hxe
  have hpos:((0:Int)<on.length)=True:=eq_true aa
  have op:(0:Int)<on.length:=by omega
  by_cases hi0:i=0
  ·have ip:¬(0:Int)<i:=by omega
   have hsrc:gY g i (Source.mk table as_ on)=[]++(nT table::(dh as_++(kT 5::le))):=by
    show (if 0<i then (if 0<on.length then [kT 4] else [eK]) else [])++(nT table::(dh as_++sw g on))=_
    rw[hle]
    rw[if_neg aa]
   rw[hsrc] at hroom ⊢
   simp only[ll] at hroom
   refine ai ac false Tryz.func90 rfl ae ?_
   simp only[Tryz.f90,tt,seval]
   simp only[tt,seval,ip]
   have hcm:kB i=[]:=if_neg aa
   have hcom:=kE full i
   rw[hcm] at hcom
   refine cS (hcom out au) ?_ ?_<;>simp only[tt,seval]
   refine cS (nr full table (out++[]) au) ?_ ?_<;>simp only[tt,seval]
   refine cS (DT full as_ (out++[]++[nT table]) au) ?_ ?_<;>simp only[tt,seval,hol,op]
   refine cS (K4 full (out++[]++[nT table]++dh as_) au) ?_ ?_<;>simp only[tt,seval,op,vM hL aI,cT (aI e),aI]
   refine cS (hxe (out++[]++[nT table]++dh as_++[kT 5]) au) ?_ ?_<;>simp only[tt,seval]
   refine⟨.tu [],_,⟨rfl,jT (l:=out++[]++[nT table]++dh as_++[kT 5]++le) (by simp)⟩,ap ?_⟩
   simp only[tt,seval]
  ·have ip:(0:Int)<i:=by omega
   have hsrc:gY g i (Source.mk table as_ on)=[kT 4]++(nT table::(dh as_++(kT 5::le))):=by
    show (if 0<i then (if 0<on.length then [kT 4] else [eK]) else [])++(nT table::(dh as_++sw g on))=_
    rw[hle]
    rw[if_pos aa];rw[if_pos aa]
   rw[hsrc] at hroom ⊢
   simp only[ll] at hroom
   refine ai ac false Tryz.func90 rfl ae ?_
   simp only[Tryz.f90,tt,seval]
   simp only[tt,seval,hol,ip,op]
   refine cS (J4 full out au) ?_ ?_<;>simp only[tt,seval]
   refine cS (nr full table (out++[kT 4]) au) ?_ ?_<;>simp only[tt,seval]
   refine cS (DT full as_ (out++[kT 4]++[nT table]) au) ?_ ?_<;>simp only[tt,seval,hol,op]
   refine cS (K4 full (out++[kT 4]++[nT table]++dh as_) au) ?_ ?_<;>simp only[tt,seval,op,vM hL aI,cT (aI e),aI]
   refine cS (hxe (out++[kT 4]++[nT table]++dh as_++[kT 5]) au) ?_ ?_<;>simp only[tt,seval]
   refine⟨.tu [],_,⟨rfl,jT (l:=out++[kT 4]++[nT table]++dh as_++[kT 5]++le) (by simp)⟩,ap ?_⟩
   simp only[tt,seval]
set_option maxHeartbeats 4000000 in
theorem BD (kind op:Int) (not:Bool) (val:Val) (qual name:ByteArray) (kids:List Expr) (sub:List Query) (full:Bool) (gf:Expr->Bool) (g:Expr->List Tok) (hf:tO gf (Expr.mk kind op not val qual name kids sub)=true) (hnum : -9223372036854775808<=val.num/\val.num<=9223372036854775807) (hg:∀x∈kids,Ap full x (g x)) (hgq:∀q∈sub,JI full q (kV g q)):Ap full (Expr.mk kind op not val qual name kids sub) (np full g (Expr.mk kind op not val qual name kids sub)):=by
 intro out hroom
 have hkid:∀k (hk:k<kids.length),jg 138 [.ag (ar (Expr.mk kind op not val qual name kids sub).row),vi k] full (aP full g kind op kids k):=fun k hk out hr=>by
  rw[Am hk] at hr ⊢
  exact J9 kind op not val qual name kids sub full k hk _ (hg _ (aJ hk)) out hr
 have hsp:=(jS hf).1
 clear hf hg
 rw[ak]
 rcases jd hsp with⟨rfl,hl,hk0,hs0⟩|⟨rfl,hn,hm,hk0,hs0⟩|⟨rfl,ho,hk0,hs0⟩|⟨rfl,ho,hk0,hs0⟩|⟨rfl,hk0,hs0⟩|⟨rfl,hk0,hs0⟩|⟨rfl,hk0,hs0⟩|⟨rfl,hk0,hs0⟩|⟨rfl,hk0,hs0⟩
 ·skip
  have e:np full g (Expr.mk 1 op not val qual name kids sub)=[eX val]:=rfl
  rw[e] at hroom ⊢
  clear e
  simp only[ll] at hroom
  refine ai ac false Tryz.func58 rfl ae ?_
  simp only[Tryz.f58,tt,seval]
  refine cS (J8 full val hl hnum.1 hnum.2 (out) au) ?_ ?_<;>simp only[tt,seval,Val.row]
  refine⟨.tu [],_,⟨rfl,jT (l:=out++[eX val]) (by simp [])⟩,ap ?_⟩
  simp only[tt,seval]
 ·skip
  have e:np full g (Expr.mk 2 op not val qual name kids sub)=cH qual++[nT name]:=rfl
  rw[e] at hroom ⊢
  clear e
  simp only[ll] at hroom
  refine ai ac false Tryz.func58 rfl ae ?_
  simp only[Tryz.f58,tt,seval]
  refine cS (pV full qual (out) au) ?_ ?_<;>simp only[tt,seval]
  refine cS (nr full name (out++cH qual) au) ?_ ?_<;>simp only[tt,seval]
  refine⟨.tu [],_,⟨rfl,jT (l:=out++cH qual++[nT name]) (by simp [aK])⟩,ap ?_⟩
  simp only[tt,seval]
 ·skip
  have e:np full g (Expr.mk 3 op not val qual name kids sub)=d5 op::aP full g 3 op kids 0:=rfl
  rw[e] at hroom ⊢
  clear e
  have hkid0:=hkid 0 aa
  generalize aP full g 3 op kids 0=a0 at *
  simp only[ll] at hroom
  refine ai ac false Tryz.func58 rfl ae ?_
  simp only[Tryz.f58,tt,seval]
  refine cS (rT full op (out) au) ?_ ?_<;>simp only[tt,seval]
  refine cS (hkid0 (out++[d5 op]) au) ?_ ?_<;>simp only[tt,seval,ak]
  refine⟨.tu [],_,⟨rfl,jT (l:=out++[d5 op]++a0) (by simp [aK])⟩,ap ?_⟩
  simp only[tt,seval]
 ·skip
  have e:np full g (Expr.mk 4 op not val qual name kids sub)=aP full g 4 op kids 0++(d5 op::aP full g 4 op kids 1):=rfl
  rw[e] at hroom ⊢
  clear e
  have hkid0:=hkid 0 aa
  generalize aP full g 4 op kids 0=a0 at *
  have hkid1:=hkid 1 aa
  generalize aP full g 4 op kids 1=a1 at *
  simp only[ll] at hroom
  refine ai ac false Tryz.func58 rfl ae ?_
  simp only[Tryz.f58,tt,seval]
  refine cS (hkid0 (out) au) ?_ ?_<;>simp only[tt,seval,ak]
  refine cS (rT full op (out++a0) au) ?_ ?_<;>simp only[tt,seval]
  refine cS (hkid1 (out++a0++[d5 op]) au) ?_ ?_<;>simp only[tt,seval,ak]
  refine⟨.tu [],_,⟨rfl,jT (l:=out++a0++[d5 op]++a1) (by simp [aK])⟩,ap ?_⟩
  simp only[tt,seval]
 ·skip
  have e:np full g (Expr.mk 5 op not val qual name kids sub)=aP full g 5 op kids 0++(kT 16::(bE not++[kT 20])):=rfl
  rw[e] at hroom ⊢
  clear e
  have hkid0:=hkid 0 aa
  generalize aP full g 5 op kids 0=a0 at *
  simp only[ll] at hroom
  refine ai ac false Tryz.func58 rfl ae ?_
  simp only[Tryz.f58,tt,seval]
  refine cS (hkid0 (out) au) ?_ ?_<;>simp only[tt,seval,ak]
  refine cS (KR full (out++a0) au) ?_ ?_<;>simp only[tt,seval]
  refine cS (Ao full not (out++a0++[kT 16]) au) ?_ ?_<;>simp only[tt,seval]
  refine cS (J7 full (out++a0++[kT 16]++bE not) au) ?_ ?_<;>simp only[tt,seval]
  refine⟨.tu [],_,⟨rfl,jT (l:=out++a0++[kT 16]++bE not++[kT 20]) (by simp [aK])⟩,ap ?_⟩
  simp only[tt,seval]
 ·skip
  have e:np full g (Expr.mk 6 op not val qual name kids sub)=aP full g 6 op kids 0++(bE not++(kT 18::(aP full g 6 op kids 1++(kT 13::aP full g 6 op kids 2)))):=rfl
  rw[e] at hroom ⊢
  clear e
  have hkid0:=hkid 0 aa
  generalize aP full g 6 op kids 0=a0 at *
  have hkid1:=hkid 1 aa
  generalize aP full g 6 op kids 1=a1 at *
  have hkid2:=hkid 2 aa
  generalize aP full g 6 op kids 2=a2 at *
  simp only[ll] at hroom
  refine ai ac false Tryz.func58 rfl ae ?_
  simp only[Tryz.f58,tt,seval]
  refine cS (hkid0 (out) au) ?_ ?_<;>simp only[tt,seval,ak]
  refine cS (Ao full not (out++a0) au) ?_ ?_<;>simp only[tt,seval]
  refine cS (DR full (out++a0++bE not) au) ?_ ?_<;>simp only[tt,seval]
  refine cS (hkid1 (out++a0++bE not++[kT 18]) au) ?_ ?_<;>simp only[tt,seval,ak]
  refine cS (J5 full (out++a0++bE not++[kT 18]++a1) au) ?_ ?_<;>simp only[tt,seval]
  refine cS (hkid2 (out++a0++bE not++[kT 18]++a1++[kT 13]) au) ?_ ?_<;>simp only[tt,seval,ak]
  refine⟨.tu [],_,⟨rfl,jT (l:=out++a0++bE not++[kT 18]++a1++[kT 13]++a2) (by simp [aK])⟩,ap ?_⟩
  simp only[tt,seval]
 ·skip
  have e:np full g (Expr.mk 7 op not val qual name kids sub)=aP full g 7 op kids 0++(bE not++(kT 17::jY::((bw (rN full g 7 op kids) (kids.length-1))++[kA]))):=rfl
  rw[e] at hroom ⊢
  clear e
  simp only[ll] at hroom
  refine ai ac false Tryz.func58 rfl ae ?_
  simp only[Tryz.f58,tt,seval]
  have hkid0:=hkid 0 aa
  obtain⟨a0,ha0⟩:∃a0,a0=aP full g 7 op kids 0:=⟨_,rfl⟩
  rw[<-ha0] at hkid0 hroom ⊢
  refine cS (hkid0 (out) au) ?_ ?_<;>simp only[tt,seval,ak]
  refine cS (Ao full not (out++a0) au) ?_ ?_<;>simp only[tt,seval]
  refine cS (K5 full (out++a0++bE not) au) ?_ ?_<;>simp only[tt,seval]
  refine cS (hD full ⟨#[40]⟩ (out++a0++bE not++[kT 17]) au) ?_ ?_<;>simp only[tt,seval]
  obtain⟨L0,hL0⟩:∃L0,L0=out++a0++bE not++[kT 17]++[jY]:=⟨_,rfl⟩
  have hL0l:L0.length=out.length+a0.length+(bE not).length+2:=by rw[hL0];simp only[ll]
  have hgt:out++a0++bE not++[kT 17]++[gT ⟨#[40]⟩]=L0:=by rw[hL0];rfl
  rw[hgt]
  refine dLoop.gh [.ren 10000105 10000120] ⟨ah,ah,?_⟩
  refine dLoop0.intro (fun f L p=>∃(j:Nat) (es:List Tok),f 4=vi (j+1:Nat)/\j<=kids.length-1/\es=L0++bw (rN full g 7 op kids) j/\L=[(9000,.str [.s 10000120 (es).length,.v (.bool full)]),(10000120,.arr 129 (es).length ((es).flatMap Tok.row) none),(3,.str [.v (.int .i64 7),.v (.int .i64 op),.v (.bool not),.v (.int .i64 val.kind),.v (.int .i64 val.num),.v (.string val.text),.v (.string qual),.v (.string name),.sl kids.length (kids.flatMap Expr.row) none,.sl sub.length (sub.flatMap Query.row) none])]/\p=none) (fun f _ _=>(kids.length-eN (f 4)).toNat) [(9000,.str [.s 10000120 (L0).length,.v (.bool full)]),(10000120,.arr 129 (L0).length ((L0).flatMap Tok.row) none),(3,.str [.v (.int .i64 7),.v (.int .i64 op),.v (.bool not),.v (.int .i64 val.kind),.v (.int .i64 val.num),.v (.string val.text),.v (.string qual),.v (.string name),.sl kids.length (kids.flatMap Expr.row) none,.sl sub.length (sub.flatMap Query.row) none])] none ⟨al rfl (al rfl (al rfl (ao _))),aq _,?_⟩ ?_
  ·simp only[tt,seval]
   exact⟨0,L0,rfl,aa,(List.append_nil _).symm,rfl⟩
  ·rintro g' L p ⟨j,es,hi,hjn,hes0,rfl,rfl⟩
   simp only[tt,seval] at hi
   simp only[tt,seval,hi]
   refine fun _=>ab (fun hlt=>?_) (fun hge=>?_)
   ·have hlt:j<kids.length-1:=by omega
    have hst:=dd (rN full g 7 op kids) j
    have hlt2:=jc (rN full g 7 op kids) hlt
    have hel:es.length=L0.length+(bw (rN full g 7 op kids) j).length:=by rw[hes0,aB]
    have hfj:rN full g 7 op kids j=kB j++aP full g 7 op kids (j+1):=rfl
    rw[hfj] at hst hlt2
    simp only[ll] at hlt2
    have hkj:=hkid (j+1) aa
    generalize aP full g 7 op kids (j+1)=aj at *
    rw[aC (n:=((j+1:Nat):Int)-1) aa aa,show ((j+1:Nat):Int)-1=(j:Int) by omega]
    refine cS (kE full j es au) ?_ ?_<;>simp only[tt,seval,hi]
    refine cS (hkj (es++kB j) au) ?_ ?_<;>simp only[tt,seval,hi,ak]
    try rw[aC (n:=((j+1:Nat):Int)+1) aa aa]
    exact⟨[(9000,.str [.s 10000120 ((es++kB j++aj)).length,.v (.bool full)]),(10000120,.arr 129 ((es++kB j++aj)).length (((es++kB j++aj)).flatMap Tok.row) none),(3,.str [.v (.int .i64 7),.v (.int .i64 op),.v (.bool not),.v (.int .i64 val.kind),.v (.int .i64 val.num),.v (.string val.text),.v (.string qual),.v (.string name),.sl kids.length (kids.flatMap Expr.row) none,.sl sub.length (sub.flatMap Query.row) none])],none,al rfl (al rfl (al rfl (ao _))),aq _,⟨j+1,es++kB j++aj,rfl,aa,by rw[hst,hes0];simp [aK],rfl,rfl⟩,az⟩
   ·have hje:j=kids.length-1:=by omega
    rw[hje] at hes0
    have hel:es.length=L0.length+(bw (rN full g 7 op kids) (kids.length-1)).length:=by rw[hes0,aB]
    refine cS (hD full ⟨#[41]⟩ es au) ?_ ?_<;>simp only[tt,seval]
    refine⟨.tu [],_,⟨rfl,jT (l:=es++[gT ⟨#[41]⟩]) (by rw[hes0,hL0];simp [kA,aK])⟩,ap ?_⟩
    simp only[tt,seval]
 ·skip
  obtain⟨q,hsub⟩:=je hs0
  have hsl:kW g sub=kV g q:=by rw[hsub];rfl
  have hq:=hgq q (by rw[hsub];simp)
  have hpos:((0:Int)<sub.length)=True:=eq_true aa
  have e:np full g (Expr.mk 8 op not val qual name kids sub)=aP full g 8 op kids 0++(bE not++(kT 17::jY::(kW g sub++[kA]))):=rfl
  rw[e] at hroom ⊢
  clear e
  have hkid0:=hkid 0 aa
  generalize aP full g 8 op kids 0=a0 at *
  simp only[ll] at hroom
  refine ai ac false Tryz.func58 rfl ae ?_
  simp only[Tryz.f58,tt,seval]
  rw[hsl] at hroom ⊢
  refine cS (hkid0 (out) au) ?_ ?_<;>simp only[tt,seval,ak]
  refine cS (Ao full not (out++a0) au) ?_ ?_<;>simp only[tt,seval]
  refine cS (K5 full (out++a0++bE not) au) ?_ ?_<;>simp only[tt,seval,BA hsub,hpos,gw (Query.row_len q),Query.row_len]
  refine cS (GM full q (kV g q) hq (out++a0++bE not++[kT 17]) au) ?_ ?_<;>simp only[tt,seval]
  refine⟨.tu [],_,⟨rfl,jT (l:=out++a0++bE not++[kT 17]++(jY::(kV g q++[kA]))) (by simp [aK])⟩,ap ?_⟩
  simp only[tt,seval]
 ·skip
  obtain⟨q,hsub⟩:=je hs0
  have hsl:kW g sub=kV g q:=by rw[hsub];rfl
  have hq:=hgq q (by rw[hsub];simp)
  have hpos:((0:Int)<sub.length)=True:=eq_true aa
  have e:np full g (Expr.mk 9 op not val qual name kids sub)=kT 19::jY::(kW g sub++[kA]):=rfl
  rw[e] at hroom ⊢
  clear e
  simp only[ll] at hroom
  refine ai ac false Tryz.func58 rfl ae ?_
  simp only[Tryz.f58,tt,seval]
  rw[hsl] at hroom ⊢
  refine cS (FX full (out) au) ?_ ?_<;>simp only[tt,seval,BA hsub,hpos,gw (Query.row_len q),Query.row_len]
  refine cS (GM full q (kV g q) hq (out++[kT 19]) au) ?_ ?_<;>simp only[tt,seval]
  refine⟨.tu [],_,⟨rfl,jT (l:=out++[kT 19]++(jY::(kV g q++[kA]))) (by simp [aK])⟩,ap ?_⟩
  simp only[tt,seval]
set_option maxHeartbeats 8000000 in
theorem yP (full:Bool) (gf:Expr->Bool) (g:Expr->List Tok) (q:Query) (hf:jQ gf q=true) (hlim:q.lim<=9223372036854775807) (hsz:szQuery q<=1048576) (hg:∀x∈exprsQ q,Ap full x (g x)):JI full q (kV g q):=by
 intro out hroom
 obtain⟨distinct,items,from_,where_,order,limit⟩:=q
 obtain⟨_,_,_,_,hl1,_,_,_⟩:=iV hf
 have hlim:limit<=9223372036854775807:=hlim
 rw[dt,dM,d4,aO,cI] at hsz
 have eq:exprsQ (.mk distinct items from_ where_ order limit)=aY items++from_.flatMap Source.on++where_++order.map SortKey.e:=rfl
 rw[eq] at hg
 have hgI:∀x∈items,x.star=false->Ap full x.e (g x.e):=fun x hx hs=>hg _ (by
  simp only[List.mem_append,aY,List.mem_map,List.mem_filter]
  exact .inl (.inl (.inl ⟨_,⟨hx,by rw[hs];rfl⟩,rfl⟩)))
 have hgS:∀s∈from_,∀x∈s.on,Ap full x (g x):=fun s hs x hx=>hg _ (by
  simp only[List.mem_append,List.mem_flatMap]
  exact .inl (.inl (.inr ⟨_,hs,hx⟩)))
 have hgW:∀x∈where_,Ap full x (g x):=fun x hx=>hg _ (by simp [hx])
 have hgO:∀k∈order,Ap full k.e (g k.e):=fun k hk=>hg _ (by
  simp only[List.mem_append,List.mem_map]
  exact .inr ⟨_,hk,rfl⟩)
 clear hf hg eq
 rw[bj]
 obtain⟨dl,hdl⟩:∃dl,dl=(if distinct=true then [kT 2] else []):=⟨_,rfl⟩
 have e:kV g (.mk distinct items from_ where_ order limit)=kT 1::(dl++(bw (dX g items) items.length++(kT 3::(bw (gP g from_) from_.length++(pS g where_++(bw (fw g order) order.length++jR limit)))))):=by rw[hdl];rfl
 rw[e] at hroom ⊢
 clear e
 simp only[ll] at hroom
 refine ai ac false Tryz.func38 rfl ae ?_
 simp only[Tryz.f38,tt,seval]
 refine cS (FW full out au) ?_ ?_<;>simp only[tt,seval]
 refine ab (fun hd=>?_) (fun hd=>?_)
 all_goals first
  | (have hd1:dl=[kT 2]:=by rw[hdl,if_pos hd]
     have hd2:dl.length=1:=by rw[hd1];rfl
     refine CallQ.intro (BC full (out++[kT 1]) au) ?_ ?_ ?_
     ·decide
     ·simp only[tt,seval]
     rintro r os ⟨rfl,rfl⟩ hos
     simp only[tt,seval]
     refine fun _=>?_
     rw[<-hd1]
     refine dLoop.gh [.ren 10000015 10000042] ⟨ah,ah,?_⟩)
  | (have hd1:dl=[]:=by rw[hdl,hd];rfl
     refine fun _=>?_
     rw[show out++[kT 1]=out++[kT 1]++dl by rw[hd1,List.append_nil]]
     refine dLoop.gh [.ren 10000011 10000042] ⟨ah,ah,?_⟩)
 all_goals
  obtain⟨L1,hL1⟩:∃L1,L1=out++[kT 1]++dl:=⟨_,rfl⟩
  rw[<-hL1]
  have hel1:L1.length=out.length+1+dl.length:=by rw[hL1];simp only[ll]
  refine dLoop0.introR (fun f L p=>∃(i:Nat) (es:List Tok),f 19=vi i/\i<=items.length/\es=L1++bw (dX g items) i/\L=[(9000,.str [.s 10000042 (es).length,.v (.bool full)]),(10000042,.arr 129 (es).length ((es).flatMap Tok.row) none),(3,.str [.v (.bool distinct),.sl items.length (items.flatMap Item.row) none,.sl from_.length (from_.flatMap Source.row) none,.sl where_.length (where_.flatMap Expr.row) none,.sl order.length (order.flatMap SortKey.row) none,.v (.int .i64 limit)])]/\p=none) (fun f _ _=>(items.length-eN (f 19)).toNat) [(9000,.str [.s 10000042 (L1).length,.v (.bool full)]),(10000042,.arr 129 (L1).length ((L1).flatMap Tok.row) none),(3,.str [.v (.bool distinct),.sl items.length (items.flatMap Item.row) none,.sl from_.length (from_.flatMap Source.row) none,.sl where_.length (where_.flatMap Expr.row) none,.sl order.length (order.flatMap SortKey.row) none,.v (.int .i64 limit)])] none ⟨al rfl (al rfl (al rfl (ao _))),aq _,?_⟩ ?_
  ·simp only[tt,seval]
   exact⟨0,L1,rfl,aa,(List.append_nil _).symm,rfl⟩
  rintro g' L p ⟨i,e1,hi19,hi,he1,rfl,rfl⟩
  simp only[tt,seval] at hi19
  simp only[tt,seval,hi19,Int.ofNat_lt]
  refine ab (fun hlt=>?_) (fun hge=>?_)
  ·have hlt:i<items.length:=by omega
   have hst:=dd (dX g items) i
   have hlt2:=jc (dX g items) hlt
   have hel:e1.length=L1.length+(bw (dX g items) i).length:=by rw[he1,aB]
   obtain⟨it,bt⟩:∃it,it=items[i]:=⟨_,rfl⟩
   have hx:items[i]?=some it:=by rw[bt];exact aA hlt
   have hmem:it∈items:=by rw[bt];exact aJ hlt
   have i0:((0:Int)<=(i:Int))=True:=eq_true aa
   have iL:((i:Int)<(items.length:Int))=True:=eq_true aa
   have iT:(i<items.length)=True:=eq_true hlt
   have hgi:=hgI it hmem
   have hit2:dX g items i=kB i++cM g it:=by rw[dX,eC hlt,bt]
   obtain⟨star,qual,⟨k0,o0,n0,v0,q0,m0,ks0,ss0⟩,as_⟩:=it
   rw[hit2] at hlt2
   simp only[ll] at hlt2
   simp only[tt,seval,cW hx Item.row_len,i0,iT,Item.row_mk,ak]
   have hcm:=Nat.zero_le (cM g (Item.mk star qual (Expr.mk k0 o0 n0 v0 q0 m0 ks0 ss0) as_)).length
   refine cS (kE full i e1 au) ?_ ?_<;>simp only[tt,seval]
   cases star
   case true=>
    have hi3:cM g (.mk true qual (Expr.mk k0 o0 n0 v0 q0 m0 ks0 ss0) as_)=cH qual++[Ef]:=rfl
    rw[hi3] at hlt2 hit2
    simp only[ll] at hlt2
    simp only[tt,seval]
    refine cS (pV full qual (e1++kB i) au) ?_ ?_<;>simp only[tt,seval]
    refine cS (hD full ⟨#[42]⟩ (e1++kB i++cH qual) au) ?_ ?_<;>simp only[tt,seval,hi19]
    try rw[dY i aa]
    refine⟨[.ren 10000034 10000042],ah,ah,?_⟩
    simp only[tt,seval,ng]
    exact⟨[(9000,.str [.s 10000042 (e1++kB i++cH qual++[gT ⟨#[42]⟩]).length,.v (.bool full)]),(10000042,.arr 129 (e1++kB i++cH qual++[gT ⟨#[42]⟩]).length ((e1++kB i++cH qual++[gT ⟨#[42]⟩]).flatMap Tok.row) none),(3,.str [.v (.bool distinct),.sl items.length (items.flatMap Item.row) none,.sl from_.length (from_.flatMap Source.row) none,.sl where_.length (where_.flatMap Expr.row) none,.sl order.length (order.flatMap SortKey.row) none,.v (.int .i64 limit)])],none,al rfl (al rfl (al rfl (ao _))),aq _,⟨i+1,e1++kB i++cH qual++[gT ⟨#[42]⟩],rfl,aa,by rw[hst,he1,hit2];simp [Ef,aK],rfl,rfl⟩,az⟩
   case false=>
    have hx0:jg 58 [.ag (ar (Expr.mk k0 o0 n0 v0 q0 m0 ks0 ss0).row)] full (g (Expr.mk k0 o0 n0 v0 q0 m0 ks0 ss0)):=hgi rfl
    have hi3:cM g (.mk false qual (Expr.mk k0 o0 n0 v0 q0 m0 ks0 ss0) as_)=g (Expr.mk k0 o0 n0 v0 q0 m0 ks0 ss0)++dh as_:=rfl
    rw[hi3] at hlt2 hit2
    generalize g (Expr.mk k0 o0 n0 v0 q0 m0 ks0 ss0)=le at *
    simp only[ll] at hlt2
    simp only[tt,seval]
    refine cS (hx0 (e1++kB i) au) ?_ ?_<;>simp only[tt,seval,ak]
    refine cS (DT full as_ (e1++kB i++le) au) ?_ ?_<;>simp only[tt,seval,hi19]
    try rw[dY i aa]
    refine⟨[],?_⟩
    simp only[tt,seval,ng]
    exact⟨[(9000,.str [.s 10000042 (e1++kB i++le++dh as_).length,.v (.bool full)]),(10000042,.arr 129 (e1++kB i++le++dh as_).length ((e1++kB i++le++dh as_).flatMap Tok.row) none),(3,.str [.v (.bool distinct),.sl items.length (items.flatMap Item.row) none,.sl from_.length (from_.flatMap Source.row) none,.sl where_.length (where_.flatMap Expr.row) none,.sl order.length (order.flatMap SortKey.row) none,.v (.int .i64 limit)])],none,al rfl (al rfl (al rfl (ao _))),aq _,⟨i+1,e1++kB i++le++dh as_,rfl,aa,by rw[hst,he1,hit2];simp [aK],rfl,rfl⟩,az⟩
  have hie:i=items.length:=by omega
  subst hie
  have hel19:e1.length=L1.length+(bw (dX g items) items.length).length:=by rw[he1,aB]
  clear hi hge
  refine cS (J3 full e1 au) ?_ ?_<;>simp only[tt,seval]
  refine fun _=>?_
  obtain⟨L2,hL2⟩:∃L2,L2=e1++[kT 3]:=⟨_,rfl⟩
  have hl2:L2.length=e1.length+1:=by rw[hL2];simp only[ll]
  rw[<-hL2]
  refine dLoop.gh [.ren 10000045 10000057] ⟨ah,ah,?_⟩
  refine dLoop0.introR (fun f L p=>∃(i:Nat) (es:List Tok),f 49=vi i/\i<=from_.length/\es=L2++bw (gP g from_) i/\L=[(9000,.str [.s 10000057 (es).length,.v (.bool full)]),(10000057,.arr 129 (es).length ((es).flatMap Tok.row) none),(3,.str [.v (.bool distinct),.sl items.length (items.flatMap Item.row) none,.sl from_.length (from_.flatMap Source.row) none,.sl where_.length (where_.flatMap Expr.row) none,.sl order.length (order.flatMap SortKey.row) none,.v (.int .i64 limit)])]/\p=none) (fun f _ _=>(from_.length-eN (f 49)).toNat) [(9000,.str [.s 10000057 (L2).length,.v (.bool full)]),(10000057,.arr 129 (L2).length ((L2).flatMap Tok.row) none),(3,.str [.v (.bool distinct),.sl items.length (items.flatMap Item.row) none,.sl from_.length (from_.flatMap Source.row) none,.sl where_.length (where_.flatMap Expr.row) none,.sl order.length (order.flatMap SortKey.row) none,.v (.int .i64 limit)])] none ⟨al rfl (al rfl (al rfl (ao _))),aq _,?_⟩ ?_
  ·simp only[tt,seval]
   exact⟨0,L2,rfl,aa,(List.append_nil _).symm,rfl⟩
  rintro g' L p ⟨i,e2,hi49,hi,he2,rfl,rfl⟩
  simp only[tt,seval] at hi49
  simp only[tt,seval,hi49,Int.ofNat_lt]
  refine ab (fun hlt=>?_) (fun hge=>?_)
  ·have hlt:i<from_.length:=by omega
   have hst:=dd (gP g from_) i
   have hlt2:=jc (gP g from_) hlt
   have hel:e2.length=L2.length+(bw (gP g from_) i).length:=by rw[he2,aB]
   obtain⟨it,bt⟩:∃it,it=from_[i]:=⟨_,rfl⟩
   have hx:from_[i]?=some it:=by rw[bt];exact aA hlt
   have hmem:it∈from_:=by rw[bt];exact aJ hlt
   have i0:((0:Int)<=(i:Int))=True:=eq_true aa
   have iL:((i:Int)<(from_.length:Int))=True:=eq_true aa
   have iT:(i<from_.length)=True:=eq_true hlt
   have hgi:=hgS it hmem
   have hso:=fy cD hmem
   have hit2:gP g from_ i=gY g i it:=by rw[gP,eC hlt,bt]
   rw[hit2] at hlt2
   obtain⟨table,as_,on⟩:=it
   rw[dk,aO] at hso
   simp only[tt,seval,cW hx Source.row_len,i0,iT,Source.row_mk]
   refine cS (DU full i (Source.mk table as_ on) g (by show on.length<=_;omega) hgi e2 au) ?_ ?_<;>simp only[tt,seval,hi49,Source.row_mk]
   try rw[dY i aa]
   refine⟨[],?_⟩
   simp only[tt,seval,ng]
   exact⟨[(9000,.str [.s 10000057 (e2++gY g i (Source.mk table as_ on)).length,.v (.bool full)]),(10000057,.arr 129 (e2++gY g i (Source.mk table as_ on)).length ((e2++gY g i (Source.mk table as_ on)).flatMap Tok.row) none),(3,.str [.v (.bool distinct),.sl items.length (items.flatMap Item.row) none,.sl from_.length (from_.flatMap Source.row) none,.sl where_.length (where_.flatMap Expr.row) none,.sl order.length (order.flatMap SortKey.row) none,.v (.int .i64 limit)])],none,al rfl (al rfl (al rfl (ao _))),aq _,⟨i+1,e2++gY g i (Source.mk table as_ on),rfl,aa,by rw[hst,he2,hit2];simp [aK],rfl,rfl⟩,az⟩
  have hie:i=from_.length:=by omega
  subst hie
  have hel49:e2.length=L2.length+(bw (gP g from_) from_.length).length:=by rw[he2,aB]
  clear hi hge
  refine cS (FY full where_ g aa hgW e2 au) ?_ ?_<;>simp only[tt,seval]
  refine fun _=>?_
  obtain⟨L3,hL3⟩:∃L3,L3=e2++pS g where_:=⟨_,rfl⟩
  have hl3:L3.length=e2.length+(pS g where_).length:=by rw[hL3];simp only[ll]
  rw[<-hL3]
  refine dLoop.gh [.ren 10000062 10000085] ⟨ah,ah,?_⟩
  refine dLoop0.introR (fun f L p=>∃(i:Nat) (es:List Tok),f 66=vi i/\i<=order.length/\es=L3++bw (fw g order) i/\L=[(9000,.str [.s 10000085 (es).length,.v (.bool full)]),(10000085,.arr 129 (es).length ((es).flatMap Tok.row) none),(3,.str [.v (.bool distinct),.sl items.length (items.flatMap Item.row) none,.sl from_.length (from_.flatMap Source.row) none,.sl where_.length (where_.flatMap Expr.row) none,.sl order.length (order.flatMap SortKey.row) none,.v (.int .i64 limit)])]/\p=none) (fun f _ _=>(order.length-eN (f 66)).toNat) [(9000,.str [.s 10000085 (L3).length,.v (.bool full)]),(10000085,.arr 129 (L3).length ((L3).flatMap Tok.row) none),(3,.str [.v (.bool distinct),.sl items.length (items.flatMap Item.row) none,.sl from_.length (from_.flatMap Source.row) none,.sl where_.length (where_.flatMap Expr.row) none,.sl order.length (order.flatMap SortKey.row) none,.v (.int .i64 limit)])] none ⟨al rfl (al rfl (al rfl (ao _))),aq _,?_⟩ ?_
  ·simp only[tt,seval]
   exact⟨0,L3,rfl,aa,(List.append_nil _).symm,rfl⟩
  rintro g' L p ⟨i,e3,hi66,hi,he3,rfl,rfl⟩
  simp only[tt,seval] at hi66
  simp only[tt,seval,hi66,Int.ofNat_lt]
  refine ab (fun hlt=>?_) (fun hge=>?_)
  ·have hlt:i<order.length:=by omega
   have hst:=dd (fw g order) i
   have hlt2:=jc (fw g order) hlt
   have hel:e3.length=L3.length+(bw (fw g order) i).length:=by rw[he3,aB]
   obtain⟨it,bt⟩:∃it,it=order[i]:=⟨_,rfl⟩
   have hx:order[i]?=some it:=by rw[bt];exact aA hlt
   have hmem:it∈order:=by rw[bt];exact aJ hlt
   have i0:((0:Int)<=(i:Int))=True:=eq_true aa
   have iL:((i:Int)<(order.length:Int))=True:=eq_true aa
   have iT:(i<order.length)=True:=eq_true hlt
   have hgi:=hgO it hmem
   have hit2:fw g order i=(if i=0 then [kT 7,kT 8] else [eK])++jr g it:=by rw[fw,eC hlt,bt]
   obtain⟨⟨k0,o0,n0,v0,q0,m0,ks0,ss0⟩,desc⟩:=it
   have hx0:jg 58 [.ag (ar (Expr.mk k0 o0 n0 v0 q0 m0 ks0 ss0).row)] full (g (Expr.mk k0 o0 n0 v0 q0 m0 ks0 ss0)):=hgi
   have hkt:jr g (SortKey.mk (Expr.mk k0 o0 n0 v0 q0 m0 ks0 ss0) desc)=g (Expr.mk k0 o0 n0 v0 q0 m0 ks0 ss0)++(if desc=true then [kT 10] else []):=rfl
   rw[hkt] at hit2
   generalize g (Expr.mk k0 o0 n0 v0 q0 m0 ks0 ss0)=le at *
   rw[hit2] at hlt2
   have hop:0<=(if desc=true then [kT 10] else []).length:=Nat.zero_le _
   simp only[tt,seval,cW hx SortKey.row_len,i0,iT,SortKey.row_mk,ak]
   refine ab (fun hc=>?_) (fun hc=>?_)
   ·have hc:i=0:=by omega
    rw[if_pos hc] at hlt2 hit2
    simp only[ll] at hlt2
    have hcm:kB i=[]:=if_neg aa
    have hcom:=kE full i
    rw[hcm] at hcom
    refine cS (DQ full e3 au) ?_ ?_<;>simp only[tt,seval]
    refine cS (hcom (e3++[kT 7,kT 8]) au) ?_ ?_<;>simp only[tt,seval]
    refine cS (hx0 (e3++[kT 7,kT 8]++[]) au) ?_ ?_<;>simp only[tt,seval,hi66,ak]
    cases desc
    case true=>
     rw[if_pos rfl] at hlt2 hit2
     simp only[ll] at hlt2
     simp only[tt,seval]
     refine cS (GL full (e3++[kT 7,kT 8]++le) au) ?_ ?_<;>simp only[tt,seval,hi66]
     try rw[dY i aa]
     refine⟨[],?_⟩
     simp only[tt,seval,ng]
     exact⟨[(9000,.str [.s 10000085 (e3++[kT 7,kT 8]++le++[kT 10]).length,.v (.bool full)]),(10000085,.arr 129 (e3++[kT 7,kT 8]++le++[kT 10]).length ((e3++[kT 7,kT 8]++le++[kT 10]).flatMap Tok.row) none),(3,.str [.v (.bool distinct),.sl items.length (items.flatMap Item.row) none,.sl from_.length (from_.flatMap Source.row) none,.sl where_.length (where_.flatMap Expr.row) none,.sl order.length (order.flatMap SortKey.row) none,.v (.int .i64 limit)])],none,al rfl (al rfl (al rfl (ao _))),aq _,⟨i+1,e3++[kT 7,kT 8]++le++[kT 10],rfl,aa,by rw[hst,he3,hit2];simp [aK],rfl,rfl⟩,az⟩
    case false=>
     rw[if_neg Bool.false_ne_true] at hlt2 hit2
     simp only[tt,seval]
     try rw[dY i aa]
     refine⟨[.ren 10000081 10000085],ah,ah,?_⟩
     simp only[tt,seval,ng]
     exact⟨[(9000,.str [.s 10000085 (e3++[kT 7,kT 8]++le).length,.v (.bool full)]),(10000085,.arr 129 (e3++[kT 7,kT 8]++le).length ((e3++[kT 7,kT 8]++le).flatMap Tok.row) none),(3,.str [.v (.bool distinct),.sl items.length (items.flatMap Item.row) none,.sl from_.length (from_.flatMap Source.row) none,.sl where_.length (where_.flatMap Expr.row) none,.sl order.length (order.flatMap SortKey.row) none,.v (.int .i64 limit)])],none,al rfl (al rfl (al rfl (ao _))),aq _,⟨i+1,e3++[kT 7,kT 8]++le,rfl,aa,by rw[hst,he3,hit2];simp [aK],rfl,rfl⟩,az⟩
   ·have hc:¬i=0:=by omega
    rw[if_neg hc] at hlt2 hit2
    simp only[ll] at hlt2
    have hcm:kB i=[eK]:=if_pos aa
    have hcom:=kE full i
    rw[hcm] at hcom
    refine cS (hcom (e3) au) ?_ ?_<;>simp only[tt,seval]
    refine cS (hx0 (e3++[eK]) au) ?_ ?_<;>simp only[tt,seval,hi66,ak]
    cases desc
    case true=>
     rw[if_pos rfl] at hlt2 hit2
     simp only[ll] at hlt2
     simp only[tt,seval]
     refine cS (GL full (e3++[eK]++le) au) ?_ ?_<;>simp only[tt,seval,hi66]
     try rw[dY i aa]
     refine⟨[],?_⟩
     simp only[tt,seval,ng]
     exact⟨[(9000,.str [.s 10000085 (e3++[eK]++le++[kT 10]).length,.v (.bool full)]),(10000085,.arr 129 (e3++[eK]++le++[kT 10]).length ((e3++[eK]++le++[kT 10]).flatMap Tok.row) none),(3,.str [.v (.bool distinct),.sl items.length (items.flatMap Item.row) none,.sl from_.length (from_.flatMap Source.row) none,.sl where_.length (where_.flatMap Expr.row) none,.sl order.length (order.flatMap SortKey.row) none,.v (.int .i64 limit)])],none,al rfl (al rfl (al rfl (ao _))),aq _,⟨i+1,e3++[eK]++le++[kT 10],rfl,aa,by rw[hst,he3,hit2];simp [aK],rfl,rfl⟩,az⟩
    case false=>
     rw[if_neg Bool.false_ne_true] at hlt2 hit2
     simp only[tt,seval]
     try rw[dY i aa]
     refine⟨[.ren 10000081 10000085],ah,ah,?_⟩
     simp only[tt,seval,ng]
     exact⟨[(9000,.str [.s 10000085 (e3++[eK]++le).length,.v (.bool full)]),(10000085,.arr 129 (e3++[eK]++le).length ((e3++[eK]++le).flatMap Tok.row) none),(3,.str [.v (.bool distinct),.sl items.length (items.flatMap Item.row) none,.sl from_.length (from_.flatMap Source.row) none,.sl where_.length (where_.flatMap Expr.row) none,.sl order.length (order.flatMap SortKey.row) none,.v (.int .i64 limit)])],none,al rfl (al rfl (al rfl (ao _))),aq _,⟨i+1,e3++[eK]++le,rfl,aa,by rw[hst,he3,hit2];simp [aK],rfl,rfl⟩,az⟩
  have hie:i=order.length:=by omega
  subst hie
  have hel66:e3.length=L3.length+(bw (fw g order) order.length).length:=by rw[he3,aB]
  clear hi hge
  refine ab (fun hlm=>?_) (fun hlm=>?_)
  ·rw[jR,if_pos hlm] at hroom ⊢
   simp only[ll] at hroom
   refine cS (I6 full e3 au) ?_ ?_<;>simp only[tt,seval]
   refine cZ (m6 limit aa hlim) ?_ ?_<;>simp only[tt,seval]
   refine cS (tT full 3 (dj limit) (e3++[kT 11]) au) ?_ ?_<;>simp only[tt,seval]
   refine⟨.tu [],_,⟨rfl,jT (l:=e3++[kT 11]++[Tok.mk 3 (dj limit) 0]) (by rw[he3,hL3,he2,hL2,he1,hL1];simp [iT,aK])⟩,ap ?_⟩
   simp only[tt,seval]
  ·rw[jR,if_neg hlm] at hroom ⊢
   simp only[ll] at hroom
   simp only[tt,seval]
   refine⟨.tu [],_,⟨rfl,jT (l:=e3) (by rw[he3,hL3,he2,hL2,he1,hL1];simp [aK])⟩,ap ?_⟩
   simp only[tt,seval]
theorem DV (full:Bool) (e:Expr):fmE e=true->Rg e->szExpr e<=1048576->Ap full e (nw full e):=by
 refine kD (F1:=tO) (F2:=A7) (F3:=np full) (P:=fun e f n t=>f=true->Rg e->szExpr e<=1048576->Ap full e t) (fun e gf gn g hg hf hr hsz=>?_) e
 have hb:∀x,eT x e->gf x=true->Ap full x (g x):=fun x hx hx'=>hg x hx hx' (qz hr hx) (Nat.le_trans (gK hx) hsz)
 have hs:∀q∈e.sub,q.lim<=9223372036854775807/\szQuery q<=1048576:=fun q hq=>⟨(uT hr hq).1,Nat.le_trans (lu hq) hsz⟩
 obtain⟨kind,op,not,val,qual,name,kids,sub⟩:=e
 obtain⟨h1,h2,h3⟩:=jS hf
 refine BD kind op not val qual name kids sub full gf g hf hr.num (fun x hx=>hb x (.inl hx) (h2 x hx)) fun q hq=>?_
 refine yP full gf g q (h3 q hq) (hs q hq).1 (hs q hq).2 fun x hx=>hb x (.inr ⟨q,hq,hx⟩) ?_
 have h4:=h3 q hq
 obtain⟨d,it,fr,wh,od,li⟩:=q
 exact (iV h4).2.2.2.2.2.2.2 x hx
theorem xp (e:Expr) (hr:Rg e) (hsz:szExpr e<=1048576):Cl Tryz.prog 23 [.ag (ar e.row)] [] fun r _=>r=vs (fN e):=by
 have c1:=po e hsz
 have ht:=gx true e hr
 have he:=DV true e
 unfold fN
 generalize nw true e=l at *
 cases hb:mA e
 case false=>
  rw[hb] at c1
  obtain⟨kind,op,not,val,qual,name,kids,sub⟩:=e
  rw[ak] at c1 ⊢
  refine ai ac false Tryz.func23 rfl ae ?_
  simp only[Tryz.f23,tt,seval]
  refine cZ (c1) ?_ ?_<;>simp only[tt,seval]
  exact⟨_,_,rfl,am rfl⟩
 case true=>
  rw[hb] at c1
  obtain⟨hf,h1,h2,h3⟩:=ht hb
  have he:jg 58 [.ag (ar e.row)] true (l):=he hf hr hsz
  have sp:=tg l h2 h3
  obtain⟨kind,op,not,val,qual,name,kids,sub⟩:=e
  rw[ak] at c1 he ⊢
  refine ai ac false Tryz.func23 rfl ae ?_
  simp only[Tryz.f23,tt,seval]
  refine cZ (c1) ?_ ?_<;>simp only[tt,seval]
  refine cS (he [] (by simp only[List.length_nil];omega)) ?_ ?_<;>simp only[tt,seval]
  refine cZ (sp) ?_ ?_<;>simp only[tt,seval]
  exact⟨_,_,rfl,am rfl⟩
theorem sP (e:Expr) (hr:Rg e) (hsz:szExpr e<=1048576):Cl Tryz.prog 51 [.ag (ar e.row)] [] fun r _=>r = .c (.sl (cA e).length ((cA e).flatMap Tok.row) none):=by
 have c1:=po e hsz
 have ht:=gx false e hr
 have he:=DV false e
 unfold cA
 generalize nw false e=l at *
 cases hb:mA e
 case false=>
  rw[hb] at c1
  obtain⟨kind,op,not,val,qual,name,kids,sub⟩:=e
  rw[ak] at c1 ⊢
  refine ai ac false Tryz.func51 rfl ae ?_
  simp only[Tryz.f51,tt,seval]
  refine cZ (c1) ?_ ?_<;>simp only[tt,seval]
  refine⟨_,[],rfl,ap ?_⟩
  simp only[tt,seval]
 case true=>
  rw[hb] at c1
  obtain⟨hf,h1,h2,h3⟩:=ht hb
  have he:jg 58 [.ag (ar e.row)] false (l):=he hf hr hsz
  obtain⟨kind,op,not,val,qual,name,kids,sub⟩:=e
  rw[ak] at c1 he ⊢
  refine ai ac false Tryz.func51 rfl ae ?_
  simp only[Tryz.f51,tt,seval]
  refine cZ (c1) ?_ ?_<;>simp only[tt,seval]
  refine cS (he [] (by simp only[List.length_nil];omega)) ?_ ?_<;>simp only[tt,seval]
  refine⟨_,[],rfl,ap ?_⟩
  simp only[tt,seval]
theorem xq (e:Expr) (hr:Rg e) (hsz:szExpr e<=1048576):Cl Tryz.prog 17 [.ag (ar e.row)] [] fun r _=>r=vs (bf (cA e)):=by
 have c1:=sP e hr hsz
 have sp:=tg (cA e) (io e hr).1 (io e hr).2
 generalize cA e=l at *
 obtain⟨kind,op,not,val,qual,name,kids,sub⟩:=e
 rw[ak] at c1 ⊢
 refine ai ac false Tryz.func17 rfl ae ?_
 simp only[Tryz.f17,tt,seval]
 refine cZ (c1) ?_ ?_<;>simp only[tt,seval]
 refine cZ (sp) ?_ ?_<;>simp only[tt,seval]
 exact⟨_,_,rfl,am rfl⟩
end Go.Proofs.YtdmomaomffhidaaGreatDoor
