/-
  The program's printer.
  Conditions: none.
-/
import Derived.Test.YtdmomaomffhidaaGreatDoorQYJ1
import Derived.Test.YtdmomaomffhidaaGreatDoorQYU
set_option linter.unusedVariables false
set_option linter.unusedSimpArgs false
set_option linter.unusedSectionVars false
set_option linter.unnecessarySimpa false
set_option maxRecDepth 8000
namespace Go.Proofs.YtdmomaomffhidaaGreatDoor
open Go Go.Dv
open Go.Vc (D dm dq cV bq)
theorem sk (q:Query) (hsz:szQuery q<=1048576):Cl Tryz.prog 37 [.ag (aw q.row)] [] fun r _=>r=vb (gU q):=by
 have hx:∀x∈exprsQ q,szExpr x<=1048576:=fun x hx=>Nat.le_trans (iE hx) hsz
 have hsum:=nL q
 have hs2:((exprsQ q).map ndE).sum<=2097152:=by
  have:=pI (l:=exprsQ q) (f:=ndE) (g:=fun x=>szExpr x+1) fun x _=>(s9 x).2
  omega
 have c1:=ld q fmE (fun x h=>yN x (hx x h)) hsz
 have c2:=u6 q dpE (fun x h=>(yJ x).1 (hx x h)) hsz
 have c3:=qc q ndE (fun x h=>(s9 x).1 (hx x h)) hsz hs2
 unfold gU
 generalize bR ((exprsQ q).map dpE)=dp at *
 generalize ((exprsQ q).map ndE).sum=nn at *
 generalize iK fmE q=fq at *
 obtain⟨distinct,items,from_,where_,order,limit⟩:=q
 rw[aG] at c1 c2 c3 ⊢
 refine ai ac false Tryz.func37 rfl ae ?_
 simp only[Tryz.f37,tt,seval]
 refine dDrawn.intro [] (dW [0,4,3,7,9,10,12,15,16,18]) ae ?_
 simp only[tt,seval]
 refine cZ (c2) ?_ ?_<;>simp only[tt,seval]
 refine cZ (c3) ?_ ?_<;>simp only[tt,seval]
 refine cZ (Bt dp nn) ?_ ?_<;>simp only[tt,seval]
 cases hb:(decide (dp<=24)&&decide (nn<=200))
 ·simp only[tt,seval]
  exact⟨_,_,aT (by first|rfl|simp),ao rfl⟩
 ·simp only[tt,seval]
  refine cZ (c1) ?_ ?_<;>simp only[tt,seval]
  exact⟨_,_,aT (by first|rfl|simp),ao rfl⟩
end Go.Proofs.YtdmomaomffhidaaGreatDoor
set_option maxRecDepth 8000
namespace Go.Proofs.YtdmomaomffhidaaGreatDoor
open Go Go.Dv
open Go.Vc (D dm dq cV bq)
open Go.RowKit (Below)
def jJ (fn:FuncId) (args:List S) (full:Bool) (l:List Tok):Prop:=∀out:List Tok,out.length+l.length<=1000000->Cl Tryz.prog fn (.c (.p 9000 0)::args) [[.ow 129 (out).length ((out).flatMap Tok.row) none,.v (.bool full)]] fun r os=>r = .tu []/\os=[[.ow 129 (out++l).length ((out++l).flatMap Tok.row) none,.v (.bool full)]]
theorem ud (full:Bool) (k:Int) (s:ByteArray):jJ 92 [vi k,vs s] full ([(Tok.mk k s 0)]):=by
 intro out hroom
 simp only[ll] at hroom
 refine ai ac false Tryz.func92 rfl ae ?_
 simp only[Tryz.f92,tt,seval]
 refine jh ?_
 rw[eE (out),dF (out) (Tok.mk k s 0)]
 refine⟨.tu [],_,⟨rfl,ki (l:=out++[(Tok.mk k s 0)]) (by rfl)⟩,aq ?_⟩
 simp only[tt,seval]
theorem nP (full:Bool) (s:ByteArray):jJ 136 [vs s] full ([nT s]):=by
 intro out hroom
 simp only[ll] at hroom
 refine ai ac false Tryz.func136 rfl ae ?_
 simp only[Tryz.f136,tt,seval]
 refine cS (ud full 2 s out ar) ?_ ?_<;>simp only[tt,seval]
 refine⟨.tu [],_,⟨rfl,ki (l:=out++[(Tok.mk 2 s 0)]) (by rfl)⟩,aq ?_⟩
 simp only[tt,seval]
theorem ii (full:Bool) (s:ByteArray):jJ 88 [vs s] full ([gT s]):=by
 intro out hroom
 simp only[ll] at hroom
 refine ai ac false Tryz.func88 rfl ae ?_
 simp only[Tryz.f88,tt,seval]
 refine cS (ud full 5 s out ar) ?_ ?_<;>simp only[tt,seval]
 refine⟨.tu [],_,⟨rfl,ki (l:=out++[(Tok.mk 5 s 0)]) (by rfl)⟩,aq ?_⟩
 simp only[tt,seval]
theorem kU (full:Bool) (i:Nat):jJ 86 [vi i] full (kg i):=by
 intro out hroom
 refine ai ac false Tryz.func86 rfl ae ?_
 simp only[Tryz.f86,tt,seval]
 refine ab (fun hc=>?_) (fun hc=>?_)
 ·rw[kg,if_pos aa] at hroom ⊢
  simp only[ll] at hroom
  refine cS (ii full ⟨#[44]⟩ out ar) ?_ ?_<;>simp only[tt,seval]
  refine⟨.tu [],_,⟨rfl,ki (l:=out++[gT ⟨#[44]⟩]) (by rfl)⟩,aq ?_⟩
  simp only[tt,seval]
 ·rw[kg,if_neg aa] at hroom ⊢
  simp only[tt,seval]
  refine⟨.tu [],_,⟨rfl,ki (l:=out) (by first|rfl|exact (List.append_nil _).symm)⟩,aq ?_⟩
  simp only[tt,seval]
theorem Ar (w:ByteArray) (l:List ByteArray) (hw:w.size<=1000) (hl:l≠[]) (hs:∀s∈l,s.size<=1000) (hn:l.length<=1000) (h1:Lib.splitB ⟨#[32]⟩ 0 (Lib.countB w ⟨#[32]⟩) w=l) (h2:Lib.countB w ⟨#[32]⟩+1=l.length):Cl Tryz.prog 178 [vs w,vs ⟨#[32]⟩] [] fun r _=>r = .c (.sl l.length (l.flatMap srow) none):=
 Cl.ofNew ae [.string w,.string ⟨#[32]⟩] fun w0 hg=>by
  obtain⟨m,hm⟩:=ut hg
  refine (Any.strings_Split Tryz.lays146 ae w ⟨#[32]⟩ m w0 aa hm ah).mono ?_
  rintro e w' ⟨rfl,rfl⟩
  rw[h1,h2]
  refine⟨_,_,rfl,rfl,by rfl,fun β=>tx w0 _ _ l hl (fun s hs'=>Nat.le_trans (hs s hs') ah) (Nat.le_trans hn ah) β (Go.heap_alloc_new w0 _),⟨rfl,rfl,rfl,by simp,fun i hi=>Go.heap_alloc_old w0 _ hi⟩⟩
def wT (s:ByteArray):Tok:=⟨1,s,0⟩
theorem DR (full:Bool) (w:ByteArray) (l:List ByteArray) (hll:l.length<=1000) (hsp:Cl Tryz.prog 178 [vs w,vs ⟨#[32]⟩] [] fun r _=>r = .c (.sl l.length (l.flatMap srow) none)):jJ 85 [vs w] full (l.map wT):=by
 intro out hroom
 rw[List.length_map] at hroom
 refine ai ac false Tryz.func85 rfl ae ?_
 simp only[Tryz.f85,tt,seval]
 refine cZ (hsp) ?_ ?_<;>simp only[tt,seval]
 refine fun _=>?_
 refine dLoop.gh [.ren 9200 10000015] ⟨ah,ah,?_⟩
 refine dLoop0.intro (fun f L p=>∃(i:Nat) (es:List Tok),f 9=vi i/\i<=l.length/\es=out++(l.take i).map wT/\L=[(9000,.str [.s 10000015 (es).length,.v (.bool full)]),(10000015,.arr 129 (es).length ((es).flatMap Tok.row) none)]/\p=none) (fun f _ _=>(l.length-fH (f 9)).toNat) [(9000,.str [.s 10000015 (out).length,.v (.bool full)]),(10000015,.arr 129 (out).length ((out).flatMap Tok.row) none)] none ⟨ak rfl (ak rfl (ap _)),au _,?_⟩ ?_
 ·simp only[tt,seval]
  exact⟨0,out,rfl,aa,(List.append_nil _).symm,rfl⟩
 ·rintro g' L p ⟨i,es,h9,hi,hes0,rfl,rfl⟩
  simp only[tt,seval] at h9
  simp only[tt,seval,h9,Int.ofNat_lt]
  refine ab (fun hlt=>?_) (fun hge=>?_)
  ·have hel:es.length=out.length+i:=by rw[hes0,aD,List.length_map,List.length_take];omega
   refine⟨aa,aa,_,aI fM (aC hlt),ky _ _,?_⟩
   simp only[tt,seval,srow]
   refine cS (ud full 1 l[i] es (by simp only[ll];omega)) ?_ ?_<;>simp only[tt,seval,h9]
   try rw[eR i aa]
   exact⟨[(9000,.str [.s 10000015 (es++[Tok.mk 1 l[i] 0]).length,.v (.bool full)]),(10000015,.arr 129 (es++[Tok.mk 1 l[i] 0]).length ((es++[Tok.mk 1 l[i] 0]).flatMap Tok.row) none)],none,ak rfl (ak rfl (ap _)),au _,⟨i+1,es++[Tok.mk 1 l[i] 0],rfl,aa,by rw[hes0,List.take_succ_eq_append_getElem hlt,List.map_append,aL];rfl,rfl,rfl⟩,az⟩
  ·have hie:i=l.length:=by omega
   subst hie
   rw[List.take_length] at hes0
   subst hes0
   refine⟨.tu [],_,⟨rfl,ki (l:=out++l.map wT) (by rfl)⟩,aq ?_⟩
   simp only[tt,seval]
theorem DS:∀k:Fin 29,1<=k.1->Lib.splitB ⟨#[32]⟩ 0 (Lib.countB (kw k.1) ⟨#[32]⟩) (kw k.1)=[kw k.1]/\Lib.countB (kw k.1) ⟨#[32]⟩=0:=by decide +kernel
theorem eG (full:Bool) (k:Nat) (h1:1<=k) (h2:k<=28):jJ 85 [vs (kw k)] full ([kT k]):=by
 obtain⟨a,b⟩:=DS ⟨k,aa⟩ h1
 have:=xk k
 exact DR full (kw k) [kw k] (by simp) (Ar (kw k) [kw k] aa (by simp) (fun s hs=>by rw[List.mem_singleton.1 hs];omega) (by simp) a (by rw[b];rfl))
theorem DT (full:Bool):jJ 85 [vs ⟨#[79,82,68,69,82,32,66,89]⟩] full ([kT 7,kT 8]):=DR full ⟨#[79,82,68,69,82,32,66,89]⟩ [kw 7,kw 8] ah (Ar ⟨#[79,82,68,69,82,32,66,89]⟩ [kw 7,kw 8] ah ah ah ah (by decide +kernel) (by decide +kernel))
theorem FY (full:Bool):jJ 85 [vs ⟨#[83,69,76,69,67,84]⟩] full ([kT 1]):=eG full 1 ah ah
theorem BB (full:Bool):jJ 85 [vs ⟨#[68,73,83,84,73,78,67,84]⟩] full ([kT 2]):=eG full 2 ah ah
theorem Jt (full:Bool):jJ 85 [vs ⟨#[70,82,79,77]⟩] full ([kT 3]):=eG full 3 ah ah
theorem Ju (full:Bool):jJ 85 [vs ⟨#[74,79,73,78]⟩] full ([kT 4]):=eG full 4 ah ah
theorem Kz (full:Bool):jJ 85 [vs ⟨#[79,78]⟩] full ([kT 5]):=eG full 5 ah ah
theorem Il (full:Bool):jJ 85 [vs ⟨#[87,72,69,82,69]⟩] full ([kT 6]):=eG full 6 ah ah
theorem H2 (full:Bool):jJ 85 [vs ⟨#[68,69,83,67]⟩] full ([kT 10]):=eG full 10 ah ah
theorem Im (full:Bool):jJ 85 [vs ⟨#[76,73,77,73,84]⟩] full ([kT 11]):=eG full 11 ah ah
theorem Lr (full:Bool):jJ 85 [vs ⟨#[65,83]⟩] full ([kT 12]):=eG full 12 ah ah
theorem Jv (full:Bool):jJ 85 [vs ⟨#[65,78,68]⟩] full ([kT 13]):=eG full 13 ah ah
theorem Ls (full:Bool):jJ 85 [vs ⟨#[79,82]⟩] full ([kT 14]):=eG full 14 ah ah
theorem Jw (full:Bool):jJ 85 [vs ⟨#[78,79,84]⟩] full ([kT 15]):=eG full 15 ah ah
theorem Lt (full:Bool):jJ 85 [vs ⟨#[73,83]⟩] full ([kT 16]):=eG full 16 ah ah
theorem KC (full:Bool):jJ 85 [vs ⟨#[73,78]⟩] full ([kT 17]):=eG full 17 ah ah
theorem DU (full:Bool):jJ 85 [vs ⟨#[66,69,84,87,69,69,78]⟩] full ([kT 18]):=eG full 18 ah ah
theorem FZ (full:Bool):jJ 85 [vs ⟨#[69,88,73,83,84,83]⟩] full ([kT 19]):=eG full 19 ah ah
theorem Jx (full:Bool):jJ 85 [vs ⟨#[78,85,76,76]⟩] full ([kT 20]):=eG full 20 ah ah
end Go.Proofs.YtdmomaomffhidaaGreatDoor
set_option maxRecDepth 8000
namespace Go.Proofs.YtdmomaomffhidaaGreatDoor
open Go Go.Dv
open Go.Vc (D dm dq cV bq)
theorem At (full is:Bool):jJ 140 [vb is] full (bA is):=by
 intro out hroom
 cases is
 case true=>
  have hroom:out.length+([kT 15]:List Tok).length<=1000000:=hroom
  refine ai ac false Tryz.func140 rfl ae ?_
  simp only[Tryz.f140,tt,seval]
  refine cS (Jw full out hroom) ?_ ?_<;>simp only[tt,seval]
  refine⟨.tu [],_,⟨rfl,ki (l:=out++[kT 15]) (by rfl)⟩,aq ?_⟩
  simp only[tt,seval]
 case false=>
  refine ai ac false Tryz.func140 rfl ae ?_
  simp only[Tryz.f140,tt,seval]
  refine⟨.tu [],_,⟨rfl,ki (l:=out) (by exact (List.append_nil _).symm)⟩,aq ?_⟩
  simp only[tt,seval]
theorem DV {v:Val} (h:dC v=true) (h1:¬v.kind=1) (h2:¬v.kind=2):∃k,1<=k/\k<=28/\qY v=kw k/\eP v=kT k:=by
 have hv:=h
 unfold dC at h
 by_cases h0:v.kind=0
 ·exact⟨20,ah,ah,by unfold qY;simp [h0,hv];rfl,by unfold eP;simp [h0]⟩
 ·rw[if_neg h0,if_neg h1,if_neg h2] at h
  by_cases h3:v.kind=3
  ·by_cases h4:v.num=1
   ·exact⟨21,ah,ah,by unfold qY;simp [h3,h4,hv];rfl,by unfold eP;simp [h3,h4]⟩
   ·exact⟨22,ah,ah,by unfold qY;simp [h3,h4,hv];rfl,by unfold eP;simp [h3,h4]⟩
  ·rw[if_neg h3] at h;cases h
theorem Jy (full:Bool) (v:Val) (h:jH v=true) (h0 : -9223372036854775808<=v.num) (h1:v.num<=9223372036854775807):jJ 135 [.ag (aw v.row)] full ([eP v]):=by
 intro out hroom
 have hroom:out.length+1<=1000000:=hroom
 simp only[jH,Bool.and_eq_true,decide_eq_true_eq] at h
 rw[Val.row]
 refine ai ac false Tryz.func135 rfl ae ?_
 simp only[Tryz.f135,tt,seval]
 refine ab (fun k1=>?_) (fun k1=>?_)
 ·have hl:eP v=⟨3,df v.num,0⟩:=by rw[eP,if_pos k1];rfl
  rw[hl]
  refine cZ (mq v.num h0 h1) ?_ ?_<;>simp only[tt,seval]
  refine cS (ud full 3 (df v.num) out ar) ?_ ?_<;>simp only[tt,seval]
  refine⟨.tu [],_,⟨rfl,ki (l:=out++[(Tok.mk 3 (df v.num) 0)]) (by rfl)⟩,aq ?_⟩
  simp only[tt,seval]
 refine ab (fun k2=>?_) (fun k2=>?_)
 ·have hl:eP v=⟨4,v.text,0⟩:=by rw[eP,if_neg k1,if_pos k2]
  rw[hl]
  refine cS (ud full 4 v.text out ar) ?_ ?_<;>simp only[tt,seval]
  refine⟨.tu [],_,⟨rfl,ki (l:=out++[(Tok.mk 4 v.text 0)]) (by rfl)⟩,aq ?_⟩
  simp only[tt,seval]
 obtain⟨k,b1,b2,hv,hl⟩:=DV h.1 k1 k2
 rw[hl]
 refine cZ (uy v h0 h1 aa) ?_ ?_<;>simp only[tt,seval,Val.row]
 rw[hv]
 refine cS (eG full k b1 b2 out ar) ?_ ?_<;>simp only[tt,seval]
 refine⟨.tu [],_,⟨rfl,ki (l:=out++[kT k]) (by rfl)⟩,aq ?_⟩
 simp only[tt,seval]
theorem qj (full:Bool) (q:ByteArray):jJ 87 [vs q] full (cA q):=by
 intro out hroom
 refine ai ac false Tryz.func87 rfl ae ?_
 simp only[Tryz.f87,tt,seval]
 refine ab (fun hq=>?_) (fun hq=>?_)
 ·have hq:¬q=⟨#[]⟩:=by simpa using hq
  rw[cA,if_neg hq] at hroom ⊢
  simp only[ll] at hroom
  refine cS (nP full q out ar) ?_ ?_<;>simp only[tt,seval]
  refine cS (ii full ⟨#[46]⟩ (out++[nT q]) ar) ?_ ?_<;>simp only[tt,seval]
  refine⟨.tu [],_,⟨rfl,ki (l:=out++[nT q]++[gT ⟨#[46]⟩]) (by simp [IU])⟩,aq ?_⟩
  simp only[tt,seval]
 ·have hq:q=⟨#[]⟩:=by simpa using hq
  rw[cA,if_pos hq] at hroom ⊢
  simp only[tt,seval]
  refine⟨.tu [],_,⟨rfl,ki (l:=out) (by first|rfl|exact (List.append_nil _).symm)⟩,aq ?_⟩
  simp only[tt,seval]
theorem DW (full:Bool) (q:ByteArray):jJ 89 [vs q] full (cP q):=by
 intro out hroom
 refine ai ac false Tryz.func89 rfl ae ?_
 simp only[Tryz.f89,tt,seval]
 refine ab (fun hq=>?_) (fun hq=>?_)
 ·have hq:¬q=⟨#[]⟩:=by simpa using hq
  rw[cP,if_neg hq] at hroom ⊢
  simp only[ll] at hroom
  refine cS (Lr full out ar) ?_ ?_<;>simp only[tt,seval]
  refine cS (nP full q (out++[kT 12]) ar) ?_ ?_<;>simp only[tt,seval]
  refine⟨.tu [],_,⟨rfl,ki (l:=out++[kT 12]++[nT q]) (by simp)⟩,aq ?_⟩
  simp only[tt,seval]
 ·have hq:q=⟨#[]⟩:=by simpa using hq
  rw[cP,if_pos hq] at hroom ⊢
  simp only[tt,seval]
  refine⟨.tu [],_,⟨rfl,ki (l:=out) (by first|rfl|exact (List.append_nil _).symm)⟩,aq ?_⟩
  simp only[tt,seval]
theorem Lu:j8 1=⟨#[79,82]⟩:=rfl
theorem JQ:j8 2=⟨#[65,78,68]⟩:=rfl
theorem Ke:j8 15=⟨#[78,79,84]⟩:=rfl
theorem sm (full:Bool) (op:Int):jJ 137 [vi op] full ([cE op]):=by
 intro out hroom
 have hroom:out.length+1<=1000000:=hroom
 by_cases h1:op=1
 ·subst h1
  refine ai ac false Tryz.func137 rfl ae ?_
  simp only[Tryz.f137,tt,seval]
  refine cZ (gj 1) ?_ ?_<;>simp only[tt,seval]
  refine cS (Ls full out ar) ?_ ?_<;>simp only[tt,seval,Lu]
  refine⟨.tu [],_,⟨rfl,ki (l:=out++[kT 14]) (by rfl)⟩,aq ?_⟩
  simp only[tt,seval]
 by_cases h2:op=2
 ·subst h2
  refine ai ac false Tryz.func137 rfl ae ?_
  simp only[Tryz.f137,tt,seval]
  refine cZ (gj 2) ?_ ?_<;>simp only[tt,seval]
  refine cS (Jv full out ar) ?_ ?_<;>simp only[tt,seval,JQ]
  refine⟨.tu [],_,⟨rfl,ki (l:=out++[kT 13]) (by rfl)⟩,aq ?_⟩
  simp only[tt,seval]
 by_cases h3:op=15
 ·subst h3
  refine ai ac false Tryz.func137 rfl ae ?_
  simp only[Tryz.f137,tt,seval]
  refine cZ (gj 15) ?_ ?_<;>simp only[tt,seval]
  refine cS (Jw full out ar) ?_ ?_<;>simp only[tt,seval,Ke]
  refine⟨.tu [],_,⟨rfl,ki (l:=out++[kT 15]) (by rfl)⟩,aq ?_⟩
  simp only[tt,seval]
 refine ai ac false Tryz.func137 rfl ae ?_
 simp only[Tryz.f137,tt,seval]
 simp only[tt,seval,aB h1,aB h2,h3]
 refine cZ (gj op) ?_ ?_<;>simp only[tt,seval]
 refine cS (ii full (j8 op) out ar) ?_ ?_<;>simp only[tt,seval]
 refine⟨.tu [],_,⟨rfl,ki (l:=out++[gT (j8 op)]) (by rw[cE,if_neg (fun h=>h.elim h1 fun h=>h.elim h2 h3)];rfl)⟩,aq ?_⟩
 simp only[tt,seval]
def Au (full:Bool) (e:Expr) (l:List Tok):Prop:=jJ 58 [.ag (aw e.row)] full (l)
def Kf (full:Bool) (q:Query) (l:List Tok):Prop:=jJ 38 [.ag (aw q.row)] full (l)
theorem H3 (full:Bool) (q:Query) (l:List Tok) (h:Kf full q l):jJ 139 [.ag (aw q.row)] full (jb::(l++[je])):=by
 intro out hroom
 simp only[ll] at hroom
 have h:jJ 38 [.ag (aw q.row)] full (l):=h
 obtain⟨distinct,items,from_,where_,order,limit⟩:=q
 rw[aG] at h ⊢
 refine ai ac false Tryz.func139 rfl ae ?_
 simp only[Tryz.f139,tt,seval]
 refine cS (ii full ⟨#[40]⟩ out ar) ?_ ?_<;>simp only[tt,seval]
 refine cS (h (out++[gT ⟨#[40]⟩]) ar) ?_ ?_<;>simp only[tt,seval]
 refine cS (ii full ⟨#[41]⟩ (out++[gT ⟨#[40]⟩]++l) ar) ?_ ?_<;>simp only[tt,seval]
 refine⟨.tu [],_,⟨rfl,ki (l:=out++[gT ⟨#[40]⟩]++l++[gT ⟨#[41]⟩]) (by simp [jb,je])⟩,aq ?_⟩
 simp only[tt,seval]
set_option maxHeartbeats 1000000 in
theorem Jz (kind op:Int) (not:Bool) (val:Val) (qual name:ByteArray) (kids:List Expr) (sub:List Query) (full:Bool) (k:Nat) (hk:k<kids.length) (l:List Tok) (hx:Au full kids[k] l):jJ 138 [.ag (aw (Expr.mk kind op not val qual name kids sub).row),vi k] full (kf (Bu full kind op kids k) l):=by
 intro out hroom
 obtain⟨it,bu⟩:∃it,it=kids[k]:=⟨_,rfl⟩
 have hw:(Bu full kind op kids k)=(l4 kind op kids k||(full&&decide (lC it<9))):=by rw[Bu,List.getD_eq_getElem?_getD,aC hk,bu];rfl
 rw[hw] at hroom ⊢
 rw[<-bu] at hx
 have hx:jJ 58 [.ag (aw it.row)] full (l):=hx
 have hx0:kids[k]?=some it:=by rw[bu];exact aC hk
 have i0:((0:Int)<=(k:Int))=True:=eq_true aa
 have iL:((k:Int)<(kids.length:Int))=True:=eq_true aa
 have hlb:0<=lC it/\lC it<=9:=by unfold lC;exact ms _ _
 have hlv:=ng it
 rw[am]
 refine ai ac false Tryz.func138 rfl ae ?_
 simp only[Tryz.f138,tt,seval]
 refine cZ (y4 kind op not val qual name kids sub k hk) ?_ ?_<;>simp only[tt,seval,am]
 cases hw1:l4 kind op kids k
 case true=>
  rw[hw1] at hroom
  simp only[tt,seval]
  have hroom:out.length+(jb::(l++[je])).length<=1000000:=hroom
  simp only[ll] at hroom
  refine cS (ii full ⟨#[40]⟩ out ar) ?_ ?_<;>simp only[tt,seval,cW hx0 aJ,i0,iL,Expr.tk,aJ]
  refine cS (hx (out++[gT ⟨#[40]⟩]) ar) ?_ ?_<;>simp only[tt,seval]
  refine cS (ii full ⟨#[41]⟩ (out++[gT ⟨#[40]⟩]++l) ar) ?_ ?_<;>simp only[tt,seval]
  refine⟨.tu [],_,⟨rfl,ki (l:=out++[gT ⟨#[40]⟩]++l++[gT ⟨#[41]⟩]) (by simp [kf,jb,je])⟩,aq ?_⟩
  simp only[tt,seval]
 case false=>
  simp only[tt,seval]
  cases full
  case false=>
   rw[hw1] at hroom
   simp only[tt,seval,cW hx0 aJ,i0,iL,Expr.tk,aJ]
   have hroom:out.length+l.length<=1000000:=hroom
   refine cS (hx out hroom) ?_ ?_<;>simp only[tt,seval]
   refine⟨.tu [],_,⟨rfl,ki (l:=out++l) (by rfl)⟩,aq ?_⟩
   simp only[tt,seval]
  case true=>
   simp only[tt,seval,cW hx0 aJ,i0,iL,Expr.tk,aJ]
   refine cZ (hlv) ?_ ?_<;>simp only[tt,seval,cW hx0 aJ,i0,iL,Expr.tk,aJ]
   rw[hw1] at hroom
   by_cases h9:lC it=9
   ·rw[aB (show ¬lC it<9 by omega)] at hroom ⊢
    simp only[tt,seval,h9]
    have hroom:out.length+l.length<=1000000:=hroom
    refine cS (hx out hroom) ?_ ?_<;>simp only[tt,seval]
    refine⟨.tu [],_,⟨rfl,ki (l:=out++l) (by rfl)⟩,aq ?_⟩
    simp only[tt,seval]
   ·rw[ax (show lC it<9 by omega)] at hroom ⊢
    simp only[tt,seval,h9]
    have hroom:out.length+(jb::(l++[je])).length<=1000000:=hroom
    simp only[ll] at hroom
    refine cS (ii true ⟨#[40]⟩ out ar) ?_ ?_<;>simp only[tt,seval,cW hx0 aJ,i0,iL,Expr.tk,aJ]
    refine cS (hx (out++[gT ⟨#[40]⟩]) ar) ?_ ?_<;>simp only[tt,seval]
    refine cS (ii true ⟨#[41]⟩ (out++[gT ⟨#[40]⟩]++l) ar) ?_ ?_<;>simp only[tt,seval]
    refine⟨.tu [],_,⟨rfl,ki (l:=out++[gT ⟨#[40]⟩]++l++[gT ⟨#[41]⟩]) (by simp [kf,jb,je])⟩,aq ?_⟩
    simp only[tt,seval]
theorem G4 (full:Bool) (l:List Expr) (g:Expr->List Tok) (hll:l.length<=1048576) (hg:∀x∈l,Au full x (g x)):jJ 91 [.c (.sl l.length (l.flatMap Expr.row) none)] full (nS g l):=by
 intro out hroom
 refine ai ac false Tryz.func91 rfl ae ?_
 simp only[Tryz.f91,tt,seval]
 refine fun _=>?_
 rcases hL:l with _|⟨e,r⟩
 ·rw[hL] at hroom
  simp only[tt,seval]
  refine⟨.tu [],_,⟨rfl,ki (l:=out) (by exact (List.append_nil _).symm)⟩,aq ?_⟩
  simp only[tt,seval]
 ·rw[<-hL]
  have hlen:l.length=r.length+1:=by rw[hL];rfl
  have hw:nS g l=kT 6::g e:=by rw[hL];rfl
  have hx:jJ 58 [.ag (aw e.row)] full (g e):=hg e (by rw[hL];simp)
  have hpos:((0:Int)<l.length)=True:=eq_true aa
  rw[hw] at hroom ⊢
  clear hw
  generalize g e=le at *
  simp only[ll] at hroom
  simp only[tt,seval,hpos]
  refine cS (Il full out ar) ?_ ?_<;>simp only[tt,seval,hpos,vL hL aJ,cT (aJ e),aJ]
  refine cS (hx (out++[kT 6]) ar) ?_ ?_<;>simp only[tt,seval]
  refine⟨.tu [],_,⟨rfl,ki (l:=out++[kT 6]++le) (by simp)⟩,aq ?_⟩
  simp only[tt,seval]
set_option maxHeartbeats 2000000 in
theorem DX (full:Bool) (i:Nat) (s:Source) (g:Expr->List Tok) (hll:s.on.length<=1048576) (hg:∀x∈s.on,Au full x (g x)):jJ 90 [vi i,.ag (aw s.row)] full (fK g i s):=by
 intro out hroom
 obtain⟨table,as_,on⟩:=s
 have hll:on.length<=1048576:=hll
 have hg:∀x∈on,Au full x (g x):=hg
 have hol:(on.length<=9223372036854775807)=True:=eq_true aa
 rw[Source.row_mk]
 rcases hL:on with _|⟨e,r⟩
 ·have hle:sc g on=[]:=by rw[hL];rfl
  have hlen:on.length=0:=by rw[hL];rfl
  try rw[<-hL]
  have op:¬(0:Int)<on.length:=by omega
  by_cases hi0:i=0
  ·have ip:¬(0:Int)<i:=by omega
   have hsrc:fK g i (Source.mk table as_ on)=[]++(nT table::(cP as_++[])):=by
    show (if 0<i then (if 0<on.length then [kT 4] else [dM]) else [])++(nT table::(cP as_++sc g on))=_
    rw[hle]
    rw[if_neg aa]
   rw[hsrc] at hroom ⊢
   simp only[ll] at hroom
   refine ai ac false Tryz.func90 rfl ae ?_
   simp only[Tryz.f90,tt,seval]
   simp only[tt,seval,ip]
   have hcm:kg i=[]:=if_neg aa
   have hcom:=kU full i
   rw[hcm] at hcom
   refine cS (hcom out ar) ?_ ?_<;>simp only[tt,seval]
   refine cS (nP full table (out++[]) ar) ?_ ?_<;>simp only[tt,seval]
   refine cS (DW full as_ (out++[]++[nT table]) ar) ?_ ?_<;>simp only[tt,seval,hol,op]
   refine⟨.tu [],_,⟨rfl,ki (l:=out++[]++[nT table]++cP as_) (by simp)⟩,aq ?_⟩
   simp only[tt,seval]
  ·have ip:(0:Int)<i:=by omega
   have hsrc:fK g i (Source.mk table as_ on)=[dM]++(nT table::(cP as_++[])):=by
    show (if 0<i then (if 0<on.length then [kT 4] else [dM]) else [])++(nT table::(cP as_++sc g on))=_
    rw[hle]
    rw[if_pos aa];rw[if_neg aa]
   rw[hsrc] at hroom ⊢
   simp only[ll] at hroom
   refine ai ac false Tryz.func90 rfl ae ?_
   simp only[Tryz.f90,tt,seval]
   simp only[tt,seval,hol,ip,op]
   have hcm:kg i=[dM]:=if_pos aa
   have hcom:=kU full i
   rw[hcm] at hcom
   refine cS (hcom out ar) ?_ ?_<;>simp only[tt,seval]
   refine cS (nP full table (out++[dM]) ar) ?_ ?_<;>simp only[tt,seval]
   refine cS (DW full as_ (out++[dM]++[nT table]) ar) ?_ ?_<;>simp only[tt,seval,hol,op]
   refine⟨.tu [],_,⟨rfl,ki (l:=out++[dM]++[nT table]++cP as_) (by simp)⟩,aq ?_⟩
   simp only[tt,seval]
 ·have hle0:sc g on=kT 5::g e:=by rw[hL];rfl
  have hlen:on.length=r.length+1:=by rw[hL];rfl
  have hxe:jJ 58 [.ag (aw e.row)] full (g e):=hg e (by rw[hL];simp)
  try rw[<-hL]
  obtain⟨le,hle1⟩:∃le,le=g e:=⟨_,rfl⟩
  have hle:sc g on=kT 5::le:=by rw[hle0,hle1]
  rw[<-hle1] at hxe
  have hpos:((0:Int)<on.length)=True:=eq_true aa
  have op:(0:Int)<on.length:=by omega
  by_cases hi0:i=0
  ·have ip:¬(0:Int)<i:=by omega
   have hsrc:fK g i (Source.mk table as_ on)=[]++(nT table::(cP as_++(kT 5::le))):=by
    show (if 0<i then (if 0<on.length then [kT 4] else [dM]) else [])++(nT table::(cP as_++sc g on))=_
    rw[hle]
    rw[if_neg aa]
   rw[hsrc] at hroom ⊢
   simp only[ll] at hroom
   refine ai ac false Tryz.func90 rfl ae ?_
   simp only[Tryz.f90,tt,seval]
   simp only[tt,seval,ip]
   have hcm:kg i=[]:=if_neg aa
   have hcom:=kU full i
   rw[hcm] at hcom
   refine cS (hcom out ar) ?_ ?_<;>simp only[tt,seval]
   refine cS (nP full table (out++[]) ar) ?_ ?_<;>simp only[tt,seval]
   refine cS (DW full as_ (out++[]++[nT table]) ar) ?_ ?_<;>simp only[tt,seval,hol,op]
   refine cS (Kz full (out++[]++[nT table]++cP as_) ar) ?_ ?_<;>simp only[tt,seval,op,vL hL aJ,cT (aJ e),aJ]
   refine cS (hxe (out++[]++[nT table]++cP as_++[kT 5]) ar) ?_ ?_<;>simp only[tt,seval]
   refine⟨.tu [],_,⟨rfl,ki (l:=out++[]++[nT table]++cP as_++[kT 5]++le) (by simp)⟩,aq ?_⟩
   simp only[tt,seval]
  ·have ip:(0:Int)<i:=by omega
   have hsrc:fK g i (Source.mk table as_ on)=[kT 4]++(nT table::(cP as_++(kT 5::le))):=by
    show (if 0<i then (if 0<on.length then [kT 4] else [dM]) else [])++(nT table::(cP as_++sc g on))=_
    rw[hle]
    rw[if_pos aa];rw[if_pos aa]
   rw[hsrc] at hroom ⊢
   simp only[ll] at hroom
   refine ai ac false Tryz.func90 rfl ae ?_
   simp only[Tryz.f90,tt,seval]
   simp only[tt,seval,hol,ip,op]
   refine cS (Ju full out ar) ?_ ?_<;>simp only[tt,seval]
   refine cS (nP full table (out++[kT 4]) ar) ?_ ?_<;>simp only[tt,seval]
   refine cS (DW full as_ (out++[kT 4]++[nT table]) ar) ?_ ?_<;>simp only[tt,seval,hol,op]
   refine cS (Kz full (out++[kT 4]++[nT table]++cP as_) ar) ?_ ?_<;>simp only[tt,seval,op,vL hL aJ,cT (aJ e),aJ]
   refine cS (hxe (out++[kT 4]++[nT table]++cP as_++[kT 5]) ar) ?_ ?_<;>simp only[tt,seval]
   refine⟨.tu [],_,⟨rfl,ki (l:=out++[kT 4]++[nT table]++cP as_++[kT 5]++le) (by simp)⟩,aq ?_⟩
   simp only[tt,seval]
set_option maxHeartbeats 4000000 in
theorem BC (kind op:Int) (not:Bool) (val:Val) (qual name:ByteArray) (kids:List Expr) (sub:List Query) (full:Bool) (gf:Expr->Bool) (g:Expr->List Tok) (hf:u7 gf (Expr.mk kind op not val qual name kids sub)=true) (hnum : -9223372036854775808<=val.num/\val.num<=9223372036854775807) (hg:∀x∈kids,Au full x (g x)) (hgq:∀q∈sub,Kf full q (dL g q)):Au full (Expr.mk kind op not val qual name kids sub) (jc full g (Expr.mk kind op not val qual name kids sub)):=by
 intro out hroom
 have hkid:∀k (hk:k<kids.length),jJ 138 [.ag (aw (Expr.mk kind op not val qual name kids sub).row),vi k] full (aO full g kind op kids k):=fun k hk out hr=>by
  rw[Aq hk] at hr ⊢
  exact Jz kind op not val qual name kids sub full k hk _ (hg _ (aM hk)) out hr
 have hsp:=(kh hf).1
 clear hf hg
 rw[am]
 rcases jw hsp with⟨rfl,hl,hk0,hs0⟩|⟨rfl,hn,hm,hk0,hs0⟩|⟨rfl,ho,hk0,hs0⟩|⟨rfl,ho,hk0,hs0⟩|⟨rfl,hk0,hs0⟩|⟨rfl,hk0,hs0⟩|⟨rfl,hk0,hs0⟩|⟨rfl,hk0,hs0⟩|⟨rfl,hk0,hs0⟩
 ·skip
  have e:jc full g (Expr.mk 1 op not val qual name kids sub)=[eP val]:=rfl
  rw[e] at hroom ⊢
  clear e
  simp only[ll] at hroom
  refine ai ac false Tryz.func58 rfl ae ?_
  simp only[Tryz.f58,tt,seval]
  refine cS (Jy full val hl hnum.1 hnum.2 (out) ar) ?_ ?_<;>simp only[tt,seval,Val.row]
  refine⟨.tu [],_,⟨rfl,ki (l:=out++[eP val]) (by simp [])⟩,aq ?_⟩
  simp only[tt,seval]
 ·skip
  have e:jc full g (Expr.mk 2 op not val qual name kids sub)=cA qual++[nT name]:=rfl
  rw[e] at hroom ⊢
  clear e
  simp only[ll] at hroom
  refine ai ac false Tryz.func58 rfl ae ?_
  simp only[Tryz.f58,tt,seval]
  refine cS (qj full qual (out) ar) ?_ ?_<;>simp only[tt,seval]
  refine cS (nP full name (out++cA qual) ar) ?_ ?_<;>simp only[tt,seval]
  refine⟨.tu [],_,⟨rfl,ki (l:=out++cA qual++[nT name]) (by simp [aL])⟩,aq ?_⟩
  simp only[tt,seval]
 ·skip
  have e:jc full g (Expr.mk 3 op not val qual name kids sub)=cE op::aO full g 3 op kids 0:=rfl
  rw[e] at hroom ⊢
  clear e
  have hkid0:=hkid 0 aa
  generalize aO full g 3 op kids 0=a0 at *
  simp only[ll] at hroom
  refine ai ac false Tryz.func58 rfl ae ?_
  simp only[Tryz.f58,tt,seval]
  refine cS (sm full op (out) ar) ?_ ?_<;>simp only[tt,seval]
  refine cS (hkid0 (out++[cE op]) ar) ?_ ?_<;>simp only[tt,seval,am]
  refine⟨.tu [],_,⟨rfl,ki (l:=out++[cE op]++a0) (by simp [aL])⟩,aq ?_⟩
  simp only[tt,seval]
 ·skip
  have e:jc full g (Expr.mk 4 op not val qual name kids sub)=aO full g 4 op kids 0++(cE op::aO full g 4 op kids 1):=rfl
  rw[e] at hroom ⊢
  clear e
  have hkid0:=hkid 0 aa
  generalize aO full g 4 op kids 0=a0 at *
  have hkid1:=hkid 1 aa
  generalize aO full g 4 op kids 1=a1 at *
  simp only[ll] at hroom
  refine ai ac false Tryz.func58 rfl ae ?_
  simp only[Tryz.f58,tt,seval]
  refine cS (hkid0 (out) ar) ?_ ?_<;>simp only[tt,seval,am]
  refine cS (sm full op (out++a0) ar) ?_ ?_<;>simp only[tt,seval]
  refine cS (hkid1 (out++a0++[cE op]) ar) ?_ ?_<;>simp only[tt,seval,am]
  refine⟨.tu [],_,⟨rfl,ki (l:=out++a0++[cE op]++a1) (by simp [aL])⟩,aq ?_⟩
  simp only[tt,seval]
 ·skip
  have e:jc full g (Expr.mk 5 op not val qual name kids sub)=aO full g 5 op kids 0++(kT 16::(bA not++[kT 20])):=rfl
  rw[e] at hroom ⊢
  clear e
  have hkid0:=hkid 0 aa
  generalize aO full g 5 op kids 0=a0 at *
  simp only[ll] at hroom
  refine ai ac false Tryz.func58 rfl ae ?_
  simp only[Tryz.f58,tt,seval]
  refine cS (hkid0 (out) ar) ?_ ?_<;>simp only[tt,seval,am]
  refine cS (Lt full (out++a0) ar) ?_ ?_<;>simp only[tt,seval]
  refine cS (At full not (out++a0++[kT 16]) ar) ?_ ?_<;>simp only[tt,seval]
  refine cS (Jx full (out++a0++[kT 16]++bA not) ar) ?_ ?_<;>simp only[tt,seval]
  refine⟨.tu [],_,⟨rfl,ki (l:=out++a0++[kT 16]++bA not++[kT 20]) (by simp [aL])⟩,aq ?_⟩
  simp only[tt,seval]
 ·skip
  have e:jc full g (Expr.mk 6 op not val qual name kids sub)=aO full g 6 op kids 0++(bA not++(kT 18::(aO full g 6 op kids 1++(kT 13::aO full g 6 op kids 2)))):=rfl
  rw[e] at hroom ⊢
  clear e
  have hkid0:=hkid 0 aa
  generalize aO full g 6 op kids 0=a0 at *
  have hkid1:=hkid 1 aa
  generalize aO full g 6 op kids 1=a1 at *
  have hkid2:=hkid 2 aa
  generalize aO full g 6 op kids 2=a2 at *
  simp only[ll] at hroom
  refine ai ac false Tryz.func58 rfl ae ?_
  simp only[Tryz.f58,tt,seval]
  refine cS (hkid0 (out) ar) ?_ ?_<;>simp only[tt,seval,am]
  refine cS (At full not (out++a0) ar) ?_ ?_<;>simp only[tt,seval]
  refine cS (DU full (out++a0++bA not) ar) ?_ ?_<;>simp only[tt,seval]
  refine cS (hkid1 (out++a0++bA not++[kT 18]) ar) ?_ ?_<;>simp only[tt,seval,am]
  refine cS (Jv full (out++a0++bA not++[kT 18]++a1) ar) ?_ ?_<;>simp only[tt,seval]
  refine cS (hkid2 (out++a0++bA not++[kT 18]++a1++[kT 13]) ar) ?_ ?_<;>simp only[tt,seval,am]
  refine⟨.tu [],_,⟨rfl,ki (l:=out++a0++bA not++[kT 18]++a1++[kT 13]++a2) (by simp [aL])⟩,aq ?_⟩
  simp only[tt,seval]
 ·skip
  have e:jc full g (Expr.mk 7 op not val qual name kids sub)=aO full g 7 op kids 0++(bA not++(kT 17::jb::((bf (oX full g 7 op kids) (kids.length-1))++[je]))):=rfl
  rw[e] at hroom ⊢
  clear e
  simp only[ll] at hroom
  refine ai ac false Tryz.func58 rfl ae ?_
  simp only[Tryz.f58,tt,seval]
  have hkid0:=hkid 0 aa
  obtain⟨a0,ha0⟩:∃a0,a0=aO full g 7 op kids 0:=⟨_,rfl⟩
  rw[<-ha0] at hkid0 hroom ⊢
  refine cS (hkid0 (out) ar) ?_ ?_<;>simp only[tt,seval,am]
  refine cS (At full not (out++a0) ar) ?_ ?_<;>simp only[tt,seval]
  refine cS (KC full (out++a0++bA not) ar) ?_ ?_<;>simp only[tt,seval]
  refine cS (ii full ⟨#[40]⟩ (out++a0++bA not++[kT 17]) ar) ?_ ?_<;>simp only[tt,seval]
  obtain⟨L0,hL0⟩:∃L0,L0=out++a0++bA not++[kT 17]++[jb]:=⟨_,rfl⟩
  have hL0l:L0.length=out.length+a0.length+(bA not).length+2:=by rw[hL0];simp only[ll]
  have hgt:out++a0++bA not++[kT 17]++[gT ⟨#[40]⟩]=L0:=by rw[hL0];rfl
  rw[hgt]
  refine dLoop.gh [.ren 10000105 10000120] ⟨ah,ah,?_⟩
  refine dLoop0.intro (fun f L p=>∃(j:Nat) (es:List Tok),f 4=vi (j+1:Nat)/\j<=kids.length-1/\es=L0++bf (oX full g 7 op kids) j/\L=[(9000,.str [.s 10000120 (es).length,.v (.bool full)]),(10000120,.arr 129 (es).length ((es).flatMap Tok.row) none),(3,.str [.v (.int .i64 7),.v (.int .i64 op),.v (.bool not),.v (.int .i64 val.kind),.v (.int .i64 val.num),.v (.string val.text),.v (.string qual),.v (.string name),.sl kids.length (kids.flatMap Expr.row) none,.sl sub.length (sub.flatMap Query.row) none])]/\p=none) (fun f _ _=>(kids.length-fH (f 4)).toNat) [(9000,.str [.s 10000120 (L0).length,.v (.bool full)]),(10000120,.arr 129 (L0).length ((L0).flatMap Tok.row) none),(3,.str [.v (.int .i64 7),.v (.int .i64 op),.v (.bool not),.v (.int .i64 val.kind),.v (.int .i64 val.num),.v (.string val.text),.v (.string qual),.v (.string name),.sl kids.length (kids.flatMap Expr.row) none,.sl sub.length (sub.flatMap Query.row) none])] none ⟨ak rfl (ak rfl (ak rfl (ap _))),au _,?_⟩ ?_
  ·simp only[tt,seval]
   exact⟨0,L0,rfl,aa,(List.append_nil _).symm,rfl⟩
  ·rintro g' L p ⟨j,es,hi,hjn,hes0,rfl,rfl⟩
   simp only[tt,seval] at hi
   simp only[tt,seval,hi]
   refine fun _=>ab (fun hlt=>?_) (fun hge=>?_)
   ·have hlt:j<kids.length-1:=by omega
    have hst:=dd (oX full g 7 op kids) j
    have hlt2:=jv (oX full g 7 op kids) hlt
    have hel:es.length=L0.length+(bf (oX full g 7 op kids) j).length:=by rw[hes0,aD]
    have hfj:oX full g 7 op kids j=kg j++aO full g 7 op kids (j+1):=rfl
    rw[hfj] at hst hlt2
    simp only[ll] at hlt2
    have hkj:=hkid (j+1) aa
    generalize aO full g 7 op kids (j+1)=aj at *
    rw[aE (n:=((j+1:Nat):Int)-1) aa aa,show ((j+1:Nat):Int)-1=(j:Int) by omega]
    refine cS (kU full j es ar) ?_ ?_<;>simp only[tt,seval,hi]
    refine cS (hkj (es++kg j) ar) ?_ ?_<;>simp only[tt,seval,hi,am]
    try rw[aE (n:=((j+1:Nat):Int)+1) aa aa]
    exact⟨[(9000,.str [.s 10000120 ((es++kg j++aj)).length,.v (.bool full)]),(10000120,.arr 129 ((es++kg j++aj)).length (((es++kg j++aj)).flatMap Tok.row) none),(3,.str [.v (.int .i64 7),.v (.int .i64 op),.v (.bool not),.v (.int .i64 val.kind),.v (.int .i64 val.num),.v (.string val.text),.v (.string qual),.v (.string name),.sl kids.length (kids.flatMap Expr.row) none,.sl sub.length (sub.flatMap Query.row) none])],none,ak rfl (ak rfl (ak rfl (ap _))),au _,⟨j+1,es++kg j++aj,rfl,aa,by rw[hst,hes0];simp [aL],rfl,rfl⟩,az⟩
   ·have hje:j=kids.length-1:=by omega
    rw[hje] at hes0
    have hel:es.length=L0.length+(bf (oX full g 7 op kids) (kids.length-1)).length:=by rw[hes0,aD]
    refine cS (ii full ⟨#[41]⟩ es ar) ?_ ?_<;>simp only[tt,seval]
    refine⟨.tu [],_,⟨rfl,ki (l:=es++[gT ⟨#[41]⟩]) (by rw[hes0,hL0];simp [je,aL])⟩,aq ?_⟩
    simp only[tt,seval]
 ·skip
  obtain⟨q,hsub⟩:=jx hs0
  have hsl:lf g sub=dL g q:=by rw[hsub];rfl
  have hq:=hgq q (by rw[hsub];simp)
  have hpos:((0:Int)<sub.length)=True:=eq_true aa
  have e:jc full g (Expr.mk 8 op not val qual name kids sub)=aO full g 8 op kids 0++(bA not++(kT 17::jb::(lf g sub++[je]))):=rfl
  rw[e] at hroom ⊢
  clear e
  have hkid0:=hkid 0 aa
  generalize aO full g 8 op kids 0=a0 at *
  simp only[ll] at hroom
  refine ai ac false Tryz.func58 rfl ae ?_
  simp only[Tryz.f58,tt,seval]
  rw[hsl] at hroom ⊢
  refine cS (hkid0 (out) ar) ?_ ?_<;>simp only[tt,seval,am]
  refine cS (At full not (out++a0) ar) ?_ ?_<;>simp only[tt,seval]
  refine cS (KC full (out++a0++bA not) ar) ?_ ?_<;>simp only[tt,seval,Bx hsub,hpos,gE (Query.row_len q),Query.row_len]
  refine cS (H3 full q (dL g q) hq (out++a0++bA not++[kT 17]) ar) ?_ ?_<;>simp only[tt,seval]
  refine⟨.tu [],_,⟨rfl,ki (l:=out++a0++bA not++[kT 17]++(jb::(dL g q++[je]))) (by simp [aL])⟩,aq ?_⟩
  simp only[tt,seval]
 ·skip
  obtain⟨q,hsub⟩:=jx hs0
  have hsl:lf g sub=dL g q:=by rw[hsub];rfl
  have hq:=hgq q (by rw[hsub];simp)
  have hpos:((0:Int)<sub.length)=True:=eq_true aa
  have e:jc full g (Expr.mk 9 op not val qual name kids sub)=kT 19::jb::(lf g sub++[je]):=rfl
  rw[e] at hroom ⊢
  clear e
  simp only[ll] at hroom
  refine ai ac false Tryz.func58 rfl ae ?_
  simp only[Tryz.f58,tt,seval]
  rw[hsl] at hroom ⊢
  refine cS (FZ full (out) ar) ?_ ?_<;>simp only[tt,seval,Bx hsub,hpos,gE (Query.row_len q),Query.row_len]
  refine cS (H3 full q (dL g q) hq (out++[kT 19]) ar) ?_ ?_<;>simp only[tt,seval]
  refine⟨.tu [],_,⟨rfl,ki (l:=out++[kT 19]++(jb::(dL g q++[je]))) (by simp [aL])⟩,aq ?_⟩
  simp only[tt,seval]
set_option maxHeartbeats 8000000 in
theorem so (full:Bool) (gf:Expr->Bool) (g:Expr->List Tok) (q:Query) (hf:iK gf q=true) (hlim:q.lim<=9223372036854775807) (hsz:szQuery q<=1048576) (hg:∀x∈exprsQ q,Au full x (g x)):Kf full q (dL g q):=by
 intro out hroom
 obtain⟨distinct,items,from_,where_,order,limit⟩:=q
 obtain⟨_,_,_,_,hl1,_,_,_⟩:=eQ hf
 have hlim:limit<=9223372036854775807:=hlim
 rw[bU,dS,cX,aP,cK] at hsz
 have eq:exprsQ (.mk distinct items from_ where_ order limit)=aU items++from_.flatMap Source.on++where_++order.map SortKey.e:=rfl
 rw[eq] at hg
 have hgI:∀x∈items,x.star=false->Au full x.e (g x.e):=fun x hx hs=>hg _ (by
  simp only[List.mem_append,aU,List.mem_map,List.mem_filter]
  exact .inl (.inl (.inl ⟨_,⟨hx,by rw[hs];rfl⟩,rfl⟩)))
 have hgS:∀s∈from_,∀x∈s.on,Au full x (g x):=fun s hs x hx=>hg _ (by
  simp only[List.mem_append,List.mem_flatMap]
  exact .inl (.inl (.inr ⟨_,hs,hx⟩)))
 have hgW:∀x∈where_,Au full x (g x):=fun x hx=>hg _ (by simp [hx])
 have hgO:∀k∈order,Au full k.e (g k.e):=fun k hk=>hg _ (by
  simp only[List.mem_append,List.mem_map]
  exact .inr ⟨_,hk,rfl⟩)
 clear hf hg eq
 rw[aG]
 obtain⟨dl,hdl⟩:∃dl,dl=(if distinct=true then [kT 2] else []):=⟨_,rfl⟩
 have e:dL g (.mk distinct items from_ where_ order limit)=kT 1::(dl++(bf (dk g items) items.length++(kT 3::(bf (dO g from_) from_.length++(nS g where_++(bf (eU g order) order.length++jg limit)))))):=by rw[hdl];rfl
 rw[e] at hroom ⊢
 clear e
 simp only[ll] at hroom
 refine ai ac false Tryz.func38 rfl ae ?_
 simp only[Tryz.f38,tt,seval]
 refine cS (FY full out ar) ?_ ?_<;>simp only[tt,seval]
 refine ab (fun hd=>?_) (fun hd=>?_)
 all_goals first
  | (have hd1:dl=[kT 2]:=by rw[hdl,if_pos hd]
     have hd2:dl.length=1:=by rw[hd1];rfl
     refine CallQ.intro (BB full (out++[kT 1]) ar) ?_ ?_ ?_
     ·decide
     ·simp only[tt,seval]
     rintro r os ⟨rfl,rfl⟩ hos
     simp only[tt,seval]
     refine fun _=>?_
     rw[<-hd1]
     refine dLoop.gh [.ren 10000015 10000042] ⟨ah,ah,?_⟩)
  | (have hd1:dl=[]:=by rw[hdl,hd];rfl
     refine fun _=>?_
     rw[show out++[kT 1]=out++[kT 1]++dl by rw[hd1,List.append_nil]]
     refine dLoop.gh [.ren 10000011 10000042] ⟨ah,ah,?_⟩)
 all_goals
  obtain⟨L1,hL1⟩:∃L1,L1=out++[kT 1]++dl:=⟨_,rfl⟩
  rw[<-hL1]
  have hel1:L1.length=out.length+1+dl.length:=by rw[hL1];simp only[ll]
  refine dLoop0.introR (fun f L p=>∃(i:Nat) (es:List Tok),f 19=vi i/\i<=items.length/\es=L1++bf (dk g items) i/\L=[(9000,.str [.s 10000042 (es).length,.v (.bool full)]),(10000042,.arr 129 (es).length ((es).flatMap Tok.row) none),(3,.str [.v (.bool distinct),.sl items.length (items.flatMap Item.row) none,.sl from_.length (from_.flatMap Source.row) none,.sl where_.length (where_.flatMap Expr.row) none,.sl order.length (order.flatMap SortKey.row) none,.v (.int .i64 limit)])]/\p=none) (fun f _ _=>(items.length-fH (f 19)).toNat) [(9000,.str [.s 10000042 (L1).length,.v (.bool full)]),(10000042,.arr 129 (L1).length ((L1).flatMap Tok.row) none),(3,.str [.v (.bool distinct),.sl items.length (items.flatMap Item.row) none,.sl from_.length (from_.flatMap Source.row) none,.sl where_.length (where_.flatMap Expr.row) none,.sl order.length (order.flatMap SortKey.row) none,.v (.int .i64 limit)])] none ⟨ak rfl (ak rfl (ak rfl (ap _))),au _,?_⟩ ?_
  ·simp only[tt,seval]
   exact⟨0,L1,rfl,aa,(List.append_nil _).symm,rfl⟩
  rintro g' L p ⟨i,e1,hi19,hi,he1,rfl,rfl⟩
  simp only[tt,seval] at hi19
  simp only[tt,seval,hi19,Int.ofNat_lt]
  refine ab (fun hlt=>?_) (fun hge=>?_)
  ·have hlt:i<items.length:=by omega
   have hst:=dd (dk g items) i
   have hlt2:=jv (dk g items) hlt
   have hel:e1.length=L1.length+(bf (dk g items) i).length:=by rw[he1,aD]
   obtain⟨it,bu⟩:∃it,it=items[i]:=⟨_,rfl⟩
   have hx:items[i]?=some it:=by rw[bu];exact aC hlt
   have hmem:it∈items:=by rw[bu];exact aM hlt
   have i0:((0:Int)<=(i:Int))=True:=eq_true aa
   have iL:((i:Int)<(items.length:Int))=True:=eq_true aa
   have iT:(i<items.length)=True:=eq_true hlt
   have hgi:=hgI it hmem
   have hit2:dk g items i=kg i++cH g it:=by rw[dk,dX hlt,bu]
   obtain⟨star,qual,⟨k0,o0,n0,v0,q0,m0,ks0,ss0⟩,as_⟩:=it
   rw[hit2] at hlt2
   simp only[ll] at hlt2
   simp only[tt,seval,cW hx Item.row_len,i0,iT,Item.row_mk,am]
   have hcm:=Nat.zero_le (cH g (Item.mk star qual (Expr.mk k0 o0 n0 v0 q0 m0 ks0 ss0) as_)).length
   refine cS (kU full i e1 ar) ?_ ?_<;>simp only[tt,seval]
   cases star
   case true=>
    have hi3:cH g (.mk true qual (Expr.mk k0 o0 n0 v0 q0 m0 ks0 ss0) as_)=cA qual++[DE]:=rfl
    rw[hi3] at hlt2 hit2
    simp only[ll] at hlt2
    simp only[tt,seval]
    refine cS (qj full qual (e1++kg i) ar) ?_ ?_<;>simp only[tt,seval]
    refine cS (ii full ⟨#[42]⟩ (e1++kg i++cA qual) ar) ?_ ?_<;>simp only[tt,seval,hi19]
    try rw[eR i aa]
    refine⟨[.ren 10000034 10000042],ah,ah,?_⟩
    simp only[tt,seval,oF]
    exact⟨[(9000,.str [.s 10000042 (e1++kg i++cA qual++[gT ⟨#[42]⟩]).length,.v (.bool full)]),(10000042,.arr 129 (e1++kg i++cA qual++[gT ⟨#[42]⟩]).length ((e1++kg i++cA qual++[gT ⟨#[42]⟩]).flatMap Tok.row) none),(3,.str [.v (.bool distinct),.sl items.length (items.flatMap Item.row) none,.sl from_.length (from_.flatMap Source.row) none,.sl where_.length (where_.flatMap Expr.row) none,.sl order.length (order.flatMap SortKey.row) none,.v (.int .i64 limit)])],none,ak rfl (ak rfl (ak rfl (ap _))),au _,⟨i+1,e1++kg i++cA qual++[gT ⟨#[42]⟩],rfl,aa,by rw[hst,he1,hit2];simp [DE,aL],rfl,rfl⟩,az⟩
   case false=>
    have hx0:jJ 58 [.ag (aw (Expr.mk k0 o0 n0 v0 q0 m0 ks0 ss0).row)] full (g (Expr.mk k0 o0 n0 v0 q0 m0 ks0 ss0)):=hgi rfl
    have hi3:cH g (.mk false qual (Expr.mk k0 o0 n0 v0 q0 m0 ks0 ss0) as_)=g (Expr.mk k0 o0 n0 v0 q0 m0 ks0 ss0)++cP as_:=rfl
    rw[hi3] at hlt2 hit2
    generalize g (Expr.mk k0 o0 n0 v0 q0 m0 ks0 ss0)=le at *
    simp only[ll] at hlt2
    simp only[tt,seval]
    refine cS (hx0 (e1++kg i) ar) ?_ ?_<;>simp only[tt,seval,am]
    refine cS (DW full as_ (e1++kg i++le) ar) ?_ ?_<;>simp only[tt,seval,hi19]
    try rw[eR i aa]
    refine⟨[],?_⟩
    simp only[tt,seval,oF]
    exact⟨[(9000,.str [.s 10000042 (e1++kg i++le++cP as_).length,.v (.bool full)]),(10000042,.arr 129 (e1++kg i++le++cP as_).length ((e1++kg i++le++cP as_).flatMap Tok.row) none),(3,.str [.v (.bool distinct),.sl items.length (items.flatMap Item.row) none,.sl from_.length (from_.flatMap Source.row) none,.sl where_.length (where_.flatMap Expr.row) none,.sl order.length (order.flatMap SortKey.row) none,.v (.int .i64 limit)])],none,ak rfl (ak rfl (ak rfl (ap _))),au _,⟨i+1,e1++kg i++le++cP as_,rfl,aa,by rw[hst,he1,hit2];simp [aL],rfl,rfl⟩,az⟩
  have hie:i=items.length:=by omega
  subst hie
  have hel19:e1.length=L1.length+(bf (dk g items) items.length).length:=by rw[he1,aD]
  clear hi hge
  refine cS (Jt full e1 ar) ?_ ?_<;>simp only[tt,seval]
  refine fun _=>?_
  obtain⟨L2,hL2⟩:∃L2,L2=e1++[kT 3]:=⟨_,rfl⟩
  have hl2:L2.length=e1.length+1:=by rw[hL2];simp only[ll]
  rw[<-hL2]
  refine dLoop.gh [.ren 10000045 10000057] ⟨ah,ah,?_⟩
  refine dLoop0.introR (fun f L p=>∃(i:Nat) (es:List Tok),f 49=vi i/\i<=from_.length/\es=L2++bf (dO g from_) i/\L=[(9000,.str [.s 10000057 (es).length,.v (.bool full)]),(10000057,.arr 129 (es).length ((es).flatMap Tok.row) none),(3,.str [.v (.bool distinct),.sl items.length (items.flatMap Item.row) none,.sl from_.length (from_.flatMap Source.row) none,.sl where_.length (where_.flatMap Expr.row) none,.sl order.length (order.flatMap SortKey.row) none,.v (.int .i64 limit)])]/\p=none) (fun f _ _=>(from_.length-fH (f 49)).toNat) [(9000,.str [.s 10000057 (L2).length,.v (.bool full)]),(10000057,.arr 129 (L2).length ((L2).flatMap Tok.row) none),(3,.str [.v (.bool distinct),.sl items.length (items.flatMap Item.row) none,.sl from_.length (from_.flatMap Source.row) none,.sl where_.length (where_.flatMap Expr.row) none,.sl order.length (order.flatMap SortKey.row) none,.v (.int .i64 limit)])] none ⟨ak rfl (ak rfl (ak rfl (ap _))),au _,?_⟩ ?_
  ·simp only[tt,seval]
   exact⟨0,L2,rfl,aa,(List.append_nil _).symm,rfl⟩
  rintro g' L p ⟨i,e2,hi49,hi,he2,rfl,rfl⟩
  simp only[tt,seval] at hi49
  simp only[tt,seval,hi49,Int.ofNat_lt]
  refine ab (fun hlt=>?_) (fun hge=>?_)
  ·have hlt:i<from_.length:=by omega
   have hst:=dd (dO g from_) i
   have hlt2:=jv (dO g from_) hlt
   have hel:e2.length=L2.length+(bf (dO g from_) i).length:=by rw[he2,aD]
   obtain⟨it,bu⟩:∃it,it=from_[i]:=⟨_,rfl⟩
   have hx:from_[i]?=some it:=by rw[bu];exact aC hlt
   have hmem:it∈from_:=by rw[bu];exact aM hlt
   have i0:((0:Int)<=(i:Int))=True:=eq_true aa
   have iL:((i:Int)<(from_.length:Int))=True:=eq_true aa
   have iT:(i<from_.length)=True:=eq_true hlt
   have hgi:=hgS it hmem
   have hso:=fP cF hmem
   have hit2:dO g from_ i=fK g i it:=by rw[dO,dX hlt,bu]
   rw[hit2] at hlt2
   obtain⟨table,as_,on⟩:=it
   rw[cM,aP] at hso
   simp only[tt,seval,cW hx Source.row_len,i0,iT,Source.row_mk]
   refine cS (DX full i (Source.mk table as_ on) g (by show on.length<=_;omega) hgi e2 ar) ?_ ?_<;>simp only[tt,seval,hi49,Source.row_mk]
   try rw[eR i aa]
   refine⟨[],?_⟩
   simp only[tt,seval,oF]
   exact⟨[(9000,.str [.s 10000057 (e2++fK g i (Source.mk table as_ on)).length,.v (.bool full)]),(10000057,.arr 129 (e2++fK g i (Source.mk table as_ on)).length ((e2++fK g i (Source.mk table as_ on)).flatMap Tok.row) none),(3,.str [.v (.bool distinct),.sl items.length (items.flatMap Item.row) none,.sl from_.length (from_.flatMap Source.row) none,.sl where_.length (where_.flatMap Expr.row) none,.sl order.length (order.flatMap SortKey.row) none,.v (.int .i64 limit)])],none,ak rfl (ak rfl (ak rfl (ap _))),au _,⟨i+1,e2++fK g i (Source.mk table as_ on),rfl,aa,by rw[hst,he2,hit2];simp [aL],rfl,rfl⟩,az⟩
  have hie:i=from_.length:=by omega
  subst hie
  have hel49:e2.length=L2.length+(bf (dO g from_) from_.length).length:=by rw[he2,aD]
  clear hi hge
  refine cS (G4 full where_ g aa hgW e2 ar) ?_ ?_<;>simp only[tt,seval]
  refine fun _=>?_
  obtain⟨L3,hL3⟩:∃L3,L3=e2++nS g where_:=⟨_,rfl⟩
  have hl3:L3.length=e2.length+(nS g where_).length:=by rw[hL3];simp only[ll]
  rw[<-hL3]
  refine dLoop.gh [.ren 10000062 10000085] ⟨ah,ah,?_⟩
  refine dLoop0.introR (fun f L p=>∃(i:Nat) (es:List Tok),f 66=vi i/\i<=order.length/\es=L3++bf (eU g order) i/\L=[(9000,.str [.s 10000085 (es).length,.v (.bool full)]),(10000085,.arr 129 (es).length ((es).flatMap Tok.row) none),(3,.str [.v (.bool distinct),.sl items.length (items.flatMap Item.row) none,.sl from_.length (from_.flatMap Source.row) none,.sl where_.length (where_.flatMap Expr.row) none,.sl order.length (order.flatMap SortKey.row) none,.v (.int .i64 limit)])]/\p=none) (fun f _ _=>(order.length-fH (f 66)).toNat) [(9000,.str [.s 10000085 (L3).length,.v (.bool full)]),(10000085,.arr 129 (L3).length ((L3).flatMap Tok.row) none),(3,.str [.v (.bool distinct),.sl items.length (items.flatMap Item.row) none,.sl from_.length (from_.flatMap Source.row) none,.sl where_.length (where_.flatMap Expr.row) none,.sl order.length (order.flatMap SortKey.row) none,.v (.int .i64 limit)])] none ⟨ak rfl (ak rfl (ak rfl (ap _))),au _,?_⟩ ?_
  ·simp only[tt,seval]
   exact⟨0,L3,rfl,aa,(List.append_nil _).symm,rfl⟩
  rintro g' L p ⟨i,e3,hi66,hi,he3,rfl,rfl⟩
  simp only[tt,seval] at hi66
  simp only[tt,seval,hi66,Int.ofNat_lt]
  refine ab (fun hlt=>?_) (fun hge=>?_)
  ·have hlt:i<order.length:=by omega
   have hst:=dd (eU g order) i
   have hlt2:=jv (eU g order) hlt
   have hel:e3.length=L3.length+(bf (eU g order) i).length:=by rw[he3,aD]
   obtain⟨it,bu⟩:∃it,it=order[i]:=⟨_,rfl⟩
   have hx:order[i]?=some it:=by rw[bu];exact aC hlt
   have hmem:it∈order:=by rw[bu];exact aM hlt
   have i0:((0:Int)<=(i:Int))=True:=eq_true aa
   have iL:((i:Int)<(order.length:Int))=True:=eq_true aa
   have iT:(i<order.length)=True:=eq_true hlt
   have hgi:=hgO it hmem
   have hit2:eU g order i=(if i=0 then [kT 7,kT 8] else [dM])++j3 g it:=by rw[eU,dX hlt,bu]
   obtain⟨⟨k0,o0,n0,v0,q0,m0,ks0,ss0⟩,desc⟩:=it
   have hx0:jJ 58 [.ag (aw (Expr.mk k0 o0 n0 v0 q0 m0 ks0 ss0).row)] full (g (Expr.mk k0 o0 n0 v0 q0 m0 ks0 ss0)):=hgi
   have hkt:j3 g (SortKey.mk (Expr.mk k0 o0 n0 v0 q0 m0 ks0 ss0) desc)=g (Expr.mk k0 o0 n0 v0 q0 m0 ks0 ss0)++(if desc=true then [kT 10] else []):=rfl
   rw[hkt] at hit2
   generalize g (Expr.mk k0 o0 n0 v0 q0 m0 ks0 ss0)=le at *
   rw[hit2] at hlt2
   have hop:0<=(if desc=true then [kT 10] else []).length:=Nat.zero_le _
   simp only[tt,seval,cW hx SortKey.row_len,i0,iT,SortKey.row_mk,am]
   refine ab (fun hc=>?_) (fun hc=>?_)
   ·have hc:i=0:=by omega
    rw[if_pos hc] at hlt2 hit2
    simp only[ll] at hlt2
    have hcm:kg i=[]:=if_neg aa
    have hcom:=kU full i
    rw[hcm] at hcom
    refine cS (DT full e3 ar) ?_ ?_<;>simp only[tt,seval]
    refine cS (hcom (e3++[kT 7,kT 8]) ar) ?_ ?_<;>simp only[tt,seval]
    refine cS (hx0 (e3++[kT 7,kT 8]++[]) ar) ?_ ?_<;>simp only[tt,seval,hi66,am]
    cases desc
    case true=>
     rw[if_pos rfl] at hlt2 hit2
     simp only[ll] at hlt2
     simp only[tt,seval]
     refine cS (H2 full (e3++[kT 7,kT 8]++le) ar) ?_ ?_<;>simp only[tt,seval,hi66]
     try rw[eR i aa]
     refine⟨[],?_⟩
     simp only[tt,seval,oF]
     exact⟨[(9000,.str [.s 10000085 (e3++[kT 7,kT 8]++le++[kT 10]).length,.v (.bool full)]),(10000085,.arr 129 (e3++[kT 7,kT 8]++le++[kT 10]).length ((e3++[kT 7,kT 8]++le++[kT 10]).flatMap Tok.row) none),(3,.str [.v (.bool distinct),.sl items.length (items.flatMap Item.row) none,.sl from_.length (from_.flatMap Source.row) none,.sl where_.length (where_.flatMap Expr.row) none,.sl order.length (order.flatMap SortKey.row) none,.v (.int .i64 limit)])],none,ak rfl (ak rfl (ak rfl (ap _))),au _,⟨i+1,e3++[kT 7,kT 8]++le++[kT 10],rfl,aa,by rw[hst,he3,hit2];simp [aL],rfl,rfl⟩,az⟩
    case false=>
     rw[if_neg Bool.false_ne_true] at hlt2 hit2
     simp only[tt,seval]
     try rw[eR i aa]
     refine⟨[.ren 10000081 10000085],ah,ah,?_⟩
     simp only[tt,seval,oF]
     exact⟨[(9000,.str [.s 10000085 (e3++[kT 7,kT 8]++le).length,.v (.bool full)]),(10000085,.arr 129 (e3++[kT 7,kT 8]++le).length ((e3++[kT 7,kT 8]++le).flatMap Tok.row) none),(3,.str [.v (.bool distinct),.sl items.length (items.flatMap Item.row) none,.sl from_.length (from_.flatMap Source.row) none,.sl where_.length (where_.flatMap Expr.row) none,.sl order.length (order.flatMap SortKey.row) none,.v (.int .i64 limit)])],none,ak rfl (ak rfl (ak rfl (ap _))),au _,⟨i+1,e3++[kT 7,kT 8]++le,rfl,aa,by rw[hst,he3,hit2];simp [aL],rfl,rfl⟩,az⟩
   ·have hc:¬i=0:=by omega
    rw[if_neg hc] at hlt2 hit2
    simp only[ll] at hlt2
    have hcm:kg i=[dM]:=if_pos aa
    have hcom:=kU full i
    rw[hcm] at hcom
    refine cS (hcom (e3) ar) ?_ ?_<;>simp only[tt,seval]
    refine cS (hx0 (e3++[dM]) ar) ?_ ?_<;>simp only[tt,seval,hi66,am]
    cases desc
    case true=>
     rw[if_pos rfl] at hlt2 hit2
     simp only[ll] at hlt2
     simp only[tt,seval]
     refine cS (H2 full (e3++[dM]++le) ar) ?_ ?_<;>simp only[tt,seval,hi66]
     try rw[eR i aa]
     refine⟨[],?_⟩
     simp only[tt,seval,oF]
     exact⟨[(9000,.str [.s 10000085 (e3++[dM]++le++[kT 10]).length,.v (.bool full)]),(10000085,.arr 129 (e3++[dM]++le++[kT 10]).length ((e3++[dM]++le++[kT 10]).flatMap Tok.row) none),(3,.str [.v (.bool distinct),.sl items.length (items.flatMap Item.row) none,.sl from_.length (from_.flatMap Source.row) none,.sl where_.length (where_.flatMap Expr.row) none,.sl order.length (order.flatMap SortKey.row) none,.v (.int .i64 limit)])],none,ak rfl (ak rfl (ak rfl (ap _))),au _,⟨i+1,e3++[dM]++le++[kT 10],rfl,aa,by rw[hst,he3,hit2];simp [aL],rfl,rfl⟩,az⟩
    case false=>
     rw[if_neg Bool.false_ne_true] at hlt2 hit2
     simp only[tt,seval]
     try rw[eR i aa]
     refine⟨[.ren 10000081 10000085],ah,ah,?_⟩
     simp only[tt,seval,oF]
     exact⟨[(9000,.str [.s 10000085 (e3++[dM]++le).length,.v (.bool full)]),(10000085,.arr 129 (e3++[dM]++le).length ((e3++[dM]++le).flatMap Tok.row) none),(3,.str [.v (.bool distinct),.sl items.length (items.flatMap Item.row) none,.sl from_.length (from_.flatMap Source.row) none,.sl where_.length (where_.flatMap Expr.row) none,.sl order.length (order.flatMap SortKey.row) none,.v (.int .i64 limit)])],none,ak rfl (ak rfl (ak rfl (ap _))),au _,⟨i+1,e3++[dM]++le,rfl,aa,by rw[hst,he3,hit2];simp [aL],rfl,rfl⟩,az⟩
  have hie:i=order.length:=by omega
  subst hie
  have hel66:e3.length=L3.length+(bf (eU g order) order.length).length:=by rw[he3,aD]
  clear hi hge
  refine ab (fun hlm=>?_) (fun hlm=>?_)
  ·rw[jg,if_pos hlm] at hroom ⊢
   simp only[ll] at hroom
   refine cS (Im full e3 ar) ?_ ?_<;>simp only[tt,seval]
   refine cZ (mq limit aa hlim) ?_ ?_<;>simp only[tt,seval]
   refine cS (ud full 3 (df limit) (e3++[kT 11]) ar) ?_ ?_<;>simp only[tt,seval]
   refine⟨.tu [],_,⟨rfl,ki (l:=e3++[kT 11]++[Tok.mk 3 (df limit) 0]) (by rw[he3,hL3,he2,hL2,he1,hL1];simp [iT,aL])⟩,aq ?_⟩
   simp only[tt,seval]
  ·rw[jg,if_neg hlm] at hroom ⊢
   simp only[ll] at hroom
   simp only[tt,seval]
   refine⟨.tu [],_,⟨rfl,ki (l:=e3) (by rw[he3,hL3,he2,hL2,he1,hL1];simp [aL])⟩,aq ?_⟩
   simp only[tt,seval]
theorem Io (full:Bool) (e:Expr):fmE e=true->Rg e->szExpr e<=1048576->Au full e (dG full e):=by
 refine kQ (F1:=u7) (F2:=Ab) (F3:=jc full) (P:=fun e f n t=>f=true->Rg e->szExpr e<=1048576->Au full e t) (fun e gf gn g hg hf hr hsz=>?_) e
 have hb:∀x,eX x e->gf x=true->Au full x (g x):=fun x hx hx'=>hg x hx hx' (qL hr hx) (Nat.le_trans (gN hx) hsz)
 have hs:∀q∈e.sub,q.lim<=9223372036854775807/\szQuery q<=1048576:=fun q hq=>⟨(vj hr hq).1,Nat.le_trans (lH hq) hsz⟩
 obtain⟨kind,op,not,val,qual,name,kids,sub⟩:=e
 obtain⟨h1,h2,h3⟩:=kh hf
 refine BC kind op not val qual name kids sub full gf g hf hr.num (fun x hx=>hb x (.inl hx) (h2 x hx)) fun q hq=>?_
 refine so full gf g q (h3 q hq) (hs q hq).1 (hs q hq).2 fun x hx=>hb x (.inr ⟨q,hq,hx⟩) ?_
 have h4:=h3 q hq
 obtain⟨d,it,fr,wh,od,li⟩:=q
 exact (eQ h4).2.2.2.2.2.2.2 x hx
noncomputable def mj (q:Query):List Tok:=if gU q=true then dL (dG false) q else []
theorem xu (q:Query) (hr:xO q) (h:gU q=true):iK fmE q=true/\(dL (dG false) q).length<=1000000:=by
 simp only[gU,Bool.and_eq_true,decide_eq_true_eq] at h
 refine⟨h.1,?_⟩
 have hb:∀x∈exprsQ q,fmE x=true:=by
  have h1:=h.1
  obtain⟨d,it,fr,wh,od,li⟩:=q
  exact (eQ h1).2.2.2.2.2.2.2
 have:=(Ij (gn:=ndE) (g:=dG false) h.1 hr.1 fun x hx=>DH false x (hb x hx) (hr.2 x hx)).1
 omega
theorem ta (q:Query) (hr:xO q) (hsz:szQuery q<=1048576):Cl Tryz.prog 15 [.ag (aw q.row)] [] fun r _=>r = .c (.sl (mj q).length ((mj q).flatMap Tok.row) none):=by
 have c1:=ue q hsz
 have ht:=xu q hr
 unfold mj
 cases hb:gU q
 case false=>
  rw[hb] at c1
  obtain⟨distinct,items,from_,where_,order,limit⟩:=q
  rw[aG] at c1 ⊢
  refine ai ac false Tryz.func15 rfl ae ?_
  simp only[Tryz.f15,tt,seval]
  refine cZ (c1) ?_ ?_<;>simp only[tt,seval]
  refine⟨_,[],rfl,aq ?_⟩
  simp only[tt,seval]
 case true=>
  rw[hb] at c1
  obtain⟨hf,hl⟩:=ht hb
  have hb:∀x∈exprsQ q,fmE x=true:=by
   obtain⟨d,it,fr,wh,od,li⟩:=q
   exact (eQ hf).2.2.2.2.2.2.2
  have he:∀out:List Tok,out.length+(dL (dG false) q).length<=1000000->Cl Tryz.prog 48 [.c (.ow 129 (out).length ((out).flatMap Tok.row) none),.ag (aw q.row),vb false] [] fun r _=>r = .c (.ow 129 (out++dL (dG false) q).length ((out++dL (dG false) q).flatMap Tok.row) none):=
   mU false fmE (dG false) q hf hr.1 hsz fun x hx=>BA false x (hb x hx) (hr.2 x hx) (Nat.le_trans (iE hx) hsz)
  generalize dL (dG false) q=l at *
  obtain⟨distinct,items,from_,where_,order,limit⟩:=q
  rw[aG] at c1 he ⊢
  refine ai ac false Tryz.func15 rfl ae ?_
  simp only[Tryz.f15,tt,seval]
  refine cZ (c1) ?_ ?_<;>simp only[tt,seval]
  refine cZ (he [] (by simp only[List.length_nil];omega)) ?_ ?_<;>simp only[tt,seval]
  refine⟨_,[],rfl,aq ?_⟩
  simp only[tt,seval]
theorem sr (q:Query) (hr:xO q) (hsz:szQuery q<=1048576):Cl Tryz.prog 9 [.ag (aw q.row)] [] fun r _=>r = .c (.ow 129 (mj q).length ((mj q).flatMap Tok.row) none):=by
 have c1:=sk q hsz
 have ht:=xu q hr
 unfold mj
 cases hb:gU q
 case false=>
  rw[hb] at c1
  obtain⟨distinct,items,from_,where_,order,limit⟩:=q
  rw[aG] at c1 ⊢
  refine ai ac false Tryz.func9 rfl ae ?_
  simp only[Tryz.f9,tt,seval]
  refine cZ (c1) ?_ ?_<;>simp only[tt,seval]
  refine⟨_,[],rfl,aq ?_⟩
  simp only[tt,seval]
 case true=>
  rw[hb] at c1
  obtain⟨hf,hl⟩:=ht hb
  have hb:∀x∈exprsQ q,fmE x=true:=by
   obtain⟨d,it,fr,wh,od,li⟩:=q
   exact (eQ hf).2.2.2.2.2.2.2
  have he:jJ 38 [.ag (aw q.row)] false (dL (dG false) q):=
   so false fmE (dG false) q hf hr.1 hsz fun x hx=>Io false x (hb x hx) (hr.2 x hx) (Nat.le_trans (iE hx) hsz)
  generalize dL (dG false) q=l at *
  obtain⟨distinct,items,from_,where_,order,limit⟩:=q
  rw[aG] at c1 he ⊢
  refine ai ac false Tryz.func9 rfl ae ?_
  simp only[Tryz.f9,tt,seval]
  refine cZ (c1) ?_ ?_<;>simp only[tt,seval]
  refine cS (he [] (by simp only[List.length_nil];omega)) ?_ ?_<;>simp only[tt,seval]
  refine⟨_,[],rfl,aq ?_⟩
  simp only[tt,seval]
end Go.Proofs.YtdmomaomffhidaaGreatDoor
