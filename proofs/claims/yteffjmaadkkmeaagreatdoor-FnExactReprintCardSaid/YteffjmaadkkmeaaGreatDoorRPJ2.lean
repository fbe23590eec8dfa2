/-
  The program's printer.
  Conditions: none.
-/
import Derived.Test.YteffjmaadkkmeaaGreatDoorRPJ1
set_option linter.unusedVariables false
set_option linter.unusedSimpArgs false
set_option linter.unusedSectionVars false
set_option maxRecDepth 8000
namespace Go.Proofs.YteffjmaadkkmeaaGreatDoor
open Go Go.Dv
open Go.Vc (D cY d3 cN bk)
open Go.RowKit (Below)
def g6 (fn:FuncId) (args:List S) (full:Bool) (l:List Tok):Prop:=∀out:List Tok,out.length+l.length<=1000000->Cl Tryz.prog fn (.c (.p 9000 0)::args) [[.ow 76 (out).length ((out).flatMap Tok.row) none,.v (.bool full)]] fun r os=>r = .tu []/\os=[[.ow 76 (out++l).length ((out++l).flatMap Tok.row) none,.v (.bool full)]]
theorem rV (full:Bool) (k:Int) (s:ByteArray):g6 296 [vi k,vs s] full ([(Tok.mk k s 0)]):=by
 intro out hroom
 simp only[ll] at hroom
 refine ae ab false Tryz.func296 rfl (by kernel_rfl) ?_
 simp only[Tryz.f296,tt,seval]
 refine⟨by kernel_rfl,⟨by simp only[maxLen];(try simp only[ll] at *);omega,by (try simp only[ll] at *);omega⟩,?_⟩
 rw[cX (out),cE (out) (Tok.mk k s 0)]
 refine⟨.tu [],_,⟨rfl,i7 (l:=out++[(Tok.mk k s 0)]) (by rfl)⟩,am ?_⟩
 simp only[tt,seval]
theorem hY (full:Bool) (s:ByteArray):g6 260 [vs s] full ([nT s]):=by
 intro out hroom
 simp only[ll] at hroom
 refine ae ab false Tryz.func260 rfl (by kernel_rfl) ?_
 simp only[Tryz.f260,tt,seval]
 refine cS (rV full 2 s out (by (try simp only[ll] at *);omega)) ?_ ?_<;>simp only[tt,seval]
 refine⟨.tu [],_,⟨rfl,i7 (l:=out++[(Tok.mk 2 s 0)]) (by rfl)⟩,am ?_⟩
 simp only[tt,seval]
theorem eT (full:Bool) (s:ByteArray):g6 263 [vs s] full ([gT s]):=by
 intro out hroom
 simp only[ll] at hroom
 refine ae ab false Tryz.func263 rfl (by kernel_rfl) ?_
 simp only[Tryz.f263,tt,seval]
 refine cS (rV full 5 s out (by (try simp only[ll] at *);omega)) ?_ ?_<;>simp only[tt,seval]
 refine⟨.tu [],_,⟨rfl,i7 (l:=out++[(Tok.mk 5 s 0)]) (by rfl)⟩,am ?_⟩
 simp only[tt,seval]
theorem g7 (full:Bool) (i:Nat):g6 261 [vi i] full (ea i):=by
 intro out hroom
 refine ae ab false Tryz.func261 rfl (by kernel_rfl) ?_
 simp only[Tryz.f261,tt,seval]
 refine aa (fun hc=>?_) (fun hc=>?_)
 ·rw[ea,if_pos (by omega)] at hroom ⊢
  simp only[ll] at hroom
  refine cS (eT full ⟨#[44]⟩ out (by (try simp only[ll] at *);omega)) ?_ ?_<;>simp only[tt,seval]
  refine⟨.tu [],_,⟨rfl,i7 (l:=out++[gT ⟨#[44]⟩]) (by rfl)⟩,am ?_⟩
  simp only[tt,seval]
 ·rw[ea,if_neg (by omega)] at hroom ⊢
  simp only[tt,seval]
  refine⟨.tu [],_,⟨rfl,i7 (l:=out) (by first|rfl|exact (List.append_nil _).symm)⟩,am ?_⟩
  simp only[tt,seval]
theorem pt (w:ByteArray) (l:List ByteArray) (hw:w.size<=1000) (hl:l≠[]) (hs:∀s∈l,s.size<=1000) (hn:l.length<=1000) (h1:Lib.splitB ⟨#[32]⟩ 0 (Lib.countB w ⟨#[32]⟩) w=l) (h2:Lib.countB w ⟨#[32]⟩+1=l.length):Cl Tryz.prog 297 [vs w,vs ⟨#[32]⟩] [] fun r _=>r = .c (.sl l.length (l.flatMap srow) none):=
 Cl.ofNew (by kernel_rfl) [.string w,.string ⟨#[32]⟩] fun w0 hg=>by
  obtain⟨m,hm⟩:=sq hg
  refine (Any.strings_Split Tryz.lays146 (by kernel_rfl) w ⟨#[32]⟩ m w0 (by omega) hm (by decide)).mono ?_
  rintro e w' ⟨rfl,rfl⟩
  rw[h1,h2]
  refine⟨_,_,rfl,rfl,by rfl,fun β=>re w0 _ _ l hl (fun s hs'=>Nat.le_trans (hs s hs') (by decide)) (Nat.le_trans hn (by decide)) β (Go.heap_alloc_new w0 _),⟨rfl,rfl,rfl,by simp,fun i hi=>Go.heap_alloc_old w0 _ hi⟩⟩
def wT (s:ByteArray):Tok:=⟨1,s,0⟩
theorem tA (full:Bool) (w:ByteArray) (l:List ByteArray) (hll:l.length<=1000) (hsp:Cl Tryz.prog 297 [vs w,vs ⟨#[32]⟩] [] fun r _=>r = .c (.sl l.length (l.flatMap srow) none)):g6 259 [vs w] full (l.map wT):=by
 intro out hroom
 rw[List.length_map] at hroom
 refine ae ab false Tryz.func259 rfl (by kernel_rfl) ?_
 simp only[Tryz.f259,tt,seval]
 refine cZ (hsp) ?_ ?_<;>simp only[tt,seval]
 refine fun _=>?_
 refine dLoop.gh [.ren 9200 10000015] ⟨by decide,by decide,?_⟩
 refine dLoop0.intro (fun f L p=>∃(i:Nat) (es:List Tok),f 9=vi i/\i<=l.length/\es=out++(l.take i).map wT/\L=[(9000,.str [.s 10000015 (es).length,.v (.bool full)]),(10000015,.arr 76 (es).length ((es).flatMap Tok.row) none)]/\p=none) (fun f _ _=>(l.length-aU (f 9)).toNat) [(9000,.str [.s 10000015 (out).length,.v (.bool full)]),(10000015,.arr 76 (out).length ((out).flatMap Tok.row) none)] none ⟨ac rfl (ac rfl (ak _)),al _,?_⟩ ?_
 ·simp only[tt,seval]
  exact⟨0,out,rfl,by omega,(List.append_nil _).symm,rfl⟩
 ·rintro g' L p ⟨i,es,h9,hi,hes0,rfl,rfl⟩
  simp only[tt,seval] at h9
  simp only[tt,seval,h9,Int.ofNat_lt]
  refine aa (fun hlt=>?_) (fun hge=>?_)
  ·have hel:es.length=out.length+i:=by rw[hes0,aA,List.length_map,List.length_take];omega
   refine⟨by omega,by omega,_,aF dM (ay hlt),ji _ _,?_⟩
   simp only[tt,seval,srow]
   refine cS (rV full 1 l[i] es (by simp only[ll];omega)) ?_ ?_<;>simp only[tt,seval,h9]
   try rw[dk i (by omega)]
   exact⟨[(9000,.str [.s 10000015 (es++[Tok.mk 1 l[i] 0]).length,.v (.bool full)]),(10000015,.arr 76 (es++[Tok.mk 1 l[i] 0]).length ((es++[Tok.mk 1 l[i] 0]).flatMap Tok.row) none)],none,ac rfl (ac rfl (ak _)),al _,⟨i+1,es++[Tok.mk 1 l[i] 0],rfl,by omega,by rw[hes0,List.take_succ_eq_append_getElem hlt,List.map_append,aJ];rfl,rfl,rfl⟩,by simp only[aU];omega⟩
  ·have hie:i=l.length:=by omega
   subst hie
   rw[List.take_length] at hes0
   subst hes0
   refine⟨.tu [],_,⟨rfl,i7 (l:=out++l.map wT) (by rfl)⟩,am ?_⟩
   simp only[tt,seval]
theorem BE:∀k:Fin 29,1<=k.1->Lib.splitB ⟨#[32]⟩ 0 (Lib.countB (kw k.1) ⟨#[32]⟩) (kw k.1)=[kw k.1]/\Lib.countB (kw k.1) ⟨#[32]⟩=0:=by decide +kernel
theorem di (full:Bool) (k:Nat) (h1:1<=k) (h2:k<=28):g6 259 [vs (kw k)] full ([kT k]):=by
 obtain⟨a,b⟩:=BE ⟨k,by omega⟩ h1
 have:=vj k
 exact tA full (kw k) [kw k] (by simp) (pt (kw k) [kw k] (by omega) (by simp) (fun s hs=>by rw[List.mem_singleton.1 hs];omega) (by simp) a (by rw[b];rfl))
theorem BF (full:Bool):g6 259 [vs ⟨#[79,82,68,69,82,32,66,89]⟩] full ([kT 7,kT 8]):=tA full ⟨#[79,82,68,69,82,32,66,89]⟩ [kw 7,kw 8] (by decide) (pt ⟨#[79,82,68,69,82,32,66,89]⟩ [kw 7,kw 8] (by decide) (by decide) (by decide) (by decide) (by decide +kernel) (by decide +kernel))
theorem vv (full:Bool):g6 259 [vs ⟨#[73,78,83,69,82,84,32,73,78,84,79]⟩] full ([kT 23,kT 24]):=tA full ⟨#[73,78,83,69,82,84,32,73,78,84,79]⟩ [kw 23,kw 24] (by decide) (pt ⟨#[73,78,83,69,82,84,32,73,78,84,79]⟩ [kw 23,kw 24] (by decide) (by decide) (by decide) (by decide) (by decide +kernel) (by decide +kernel))
theorem vw (full:Bool):g6 259 [vs ⟨#[68,69,76,69,84,69,32,70,82,79,77]⟩] full ([kT 28,kT 3]):=tA full ⟨#[68,69,76,69,84,69,32,70,82,79,77]⟩ [kw 28,kw 3] (by decide) (pt ⟨#[68,69,76,69,84,69,32,70,82,79,77]⟩ [kw 28,kw 3] (by decide) (by decide) (by decide) (by decide) (by decide +kernel) (by decide +kernel))
theorem D2 (full:Bool):g6 259 [vs ⟨#[83,69,76,69,67,84]⟩] full ([kT 1]):=di full 1 (by decide) (by decide)
theorem zg (full:Bool):g6 259 [vs ⟨#[68,73,83,84,73,78,67,84]⟩] full ([kT 2]):=di full 2 (by decide) (by decide)
theorem EL (full:Bool):g6 259 [vs ⟨#[70,82,79,77]⟩] full ([kT 3]):=di full 3 (by decide) (by decide)
theorem EM (full:Bool):g6 259 [vs ⟨#[74,79,73,78]⟩] full ([kT 4]):=di full 4 (by decide) (by decide)
theorem Gu (full:Bool):g6 259 [vs ⟨#[79,78]⟩] full ([kT 5]):=di full 5 (by decide) (by decide)
theorem Ec (full:Bool):g6 259 [vs ⟨#[87,72,69,82,69]⟩] full ([kT 6]):=di full 6 (by decide) (by decide)
theorem Ds (full:Bool):g6 259 [vs ⟨#[68,69,83,67]⟩] full ([kT 10]):=di full 10 (by decide) (by decide)
theorem Ed (full:Bool):g6 259 [vs ⟨#[76,73,77,73,84]⟩] full ([kT 11]):=di full 11 (by decide) (by decide)
theorem GJ (full:Bool):g6 259 [vs ⟨#[65,83]⟩] full ([kT 12]):=di full 12 (by decide) (by decide)
theorem EN (full:Bool):g6 259 [vs ⟨#[65,78,68]⟩] full ([kT 13]):=di full 13 (by decide) (by decide)
theorem GK (full:Bool):g6 259 [vs ⟨#[79,82]⟩] full ([kT 14]):=di full 14 (by decide) (by decide)
theorem EO (full:Bool):g6 259 [vs ⟨#[78,79,84]⟩] full ([kT 15]):=di full 15 (by decide) (by decide)
theorem GL (full:Bool):g6 259 [vs ⟨#[73,83]⟩] full ([kT 16]):=di full 16 (by decide) (by decide)
theorem Gv (full:Bool):g6 259 [vs ⟨#[73,78]⟩] full ([kT 17]):=di full 17 (by decide) (by decide)
theorem BG (full:Bool):g6 259 [vs ⟨#[66,69,84,87,69,69,78]⟩] full ([kT 18]):=di full 18 (by decide) (by decide)
theorem D3 (full:Bool):g6 259 [vs ⟨#[69,88,73,83,84,83]⟩] full ([kT 19]):=di full 19 (by decide) (by decide)
theorem EP (full:Bool):g6 259 [vs ⟨#[78,85,76,76]⟩] full ([kT 20]):=di full 20 (by decide) (by decide)
theorem D4 (full:Bool):g6 259 [vs ⟨#[86,65,76,85,69,83]⟩] full ([kT 25]):=di full 25 (by decide) (by decide)
theorem D5 (full:Bool):g6 259 [vs ⟨#[85,80,68,65,84,69]⟩] full ([kT 26]):=di full 26 (by decide) (by decide)
theorem FA (full:Bool):g6 259 [vs ⟨#[83,69,84]⟩] full ([kT 27]):=di full 27 (by decide) (by decide)
end Go.Proofs.YteffjmaadkkmeaaGreatDoor
set_option maxRecDepth 8000
namespace Go.Proofs.YteffjmaadkkmeaaGreatDoor
open Go Go.Dv
open Go.Vc (D cY d3 cN bk)
theorem y0 (full is:Bool):g6 302 [vb is] full (bP is):=by
 intro out hroom
 cases is
 case true=>
  have hroom:out.length+([kT 15]:List Tok).length<=1000000:=hroom
  refine ae ab false Tryz.func302 rfl (by kernel_rfl) ?_
  simp only[Tryz.f302,tt,seval]
  refine cS (EO full out hroom) ?_ ?_<;>simp only[tt,seval]
  refine⟨.tu [],_,⟨rfl,i7 (l:=out++[kT 15]) (by rfl)⟩,am ?_⟩
  simp only[tt,seval]
 case false=>
  refine ae ab false Tryz.func302 rfl (by kernel_rfl) ?_
  simp only[Tryz.f302,tt,seval]
  refine⟨.tu [],_,⟨rfl,i7 (l:=out) (by exact (List.append_nil _).symm)⟩,am ?_⟩
  simp only[tt,seval]
theorem BH {v:Val} (h:dN v=true) (h1:¬v.kind=1) (h2:¬v.kind=2):∃k,1<=k/\k<=28/\pG v=kw k/\fy v=kT k:=by
 have hv:=h
 unfold dN at h
 by_cases h0:v.kind=0
 ·exact⟨20,by decide,by decide,by unfold pG;simp [h0,hv];rfl,by unfold fy;simp [h0]⟩
 ·rw[if_neg h0,if_neg h1,if_neg h2] at h
  by_cases h3:v.kind=3
  ·by_cases h4:v.num=1
   ·exact⟨21,by decide,by decide,by unfold pG;simp [h3,h4,hv];rfl,by unfold fy;simp [h3,h4]⟩
   ·exact⟨22,by decide,by decide,by unfold pG;simp [h3,h4,hv];rfl,by unfold fy;simp [h3,h4]⟩
  ·rw[if_neg h3] at h;cases h
theorem EQ (full:Bool) (v:Val) (h:ou v=true) (h0 : -9223372036854775808<=v.num) (h1:v.num<=9223372036854775807):g6 298 [.ag (av v.row)] full ([fy v]):=by
 intro out hroom
 have hroom:out.length+1<=1000000:=hroom
 simp only[ou,Bool.and_eq_true,decide_eq_true_eq] at h
 rw[Val.row]
 refine ae ab false Tryz.func298 rfl (by kernel_rfl) ?_
 simp only[Tryz.f298,tt,seval]
 refine aa (fun k1=>?_) (fun k1=>?_)
 ·have hl:fy v=⟨3,dV v.num,0⟩:=by rw[fy,if_pos k1];rfl
  rw[hl]
  refine cZ (l5 v.num h0 h1) ?_ ?_<;>simp only[tt,seval]
  refine cS (rV full 3 (dV v.num) out (by (try simp only[ll] at *);omega)) ?_ ?_<;>simp only[tt,seval]
  refine⟨.tu [],_,⟨rfl,i7 (l:=out++[(Tok.mk 3 (dV v.num) 0)]) (by rfl)⟩,am ?_⟩
  simp only[tt,seval]
 refine aa (fun k2=>?_) (fun k2=>?_)
 ·have hl:fy v=⟨4,v.text,0⟩:=by rw[fy,if_neg k1,if_pos k2]
  rw[hl]
  refine cS (rV full 4 v.text out (by (try simp only[ll] at *);omega)) ?_ ?_<;>simp only[tt,seval]
  refine⟨.tu [],_,⟨rfl,i7 (l:=out++[(Tok.mk 4 v.text 0)]) (by rfl)⟩,am ?_⟩
  simp only[tt,seval]
 obtain⟨k,b1,b2,hv,hl⟩:=BH h.1 k1 k2
 rw[hl]
 refine cZ (sB v h0 h1 (by omega)) ?_ ?_<;>simp only[tt,seval,Val.row]
 rw[hv]
 refine cS (di full k b1 b2 out (by (try simp only[ll] at *);omega)) ?_ ?_<;>simp only[tt,seval]
 refine⟨.tu [],_,⟨rfl,i7 (l:=out++[kT k]) (by rfl)⟩,am ?_⟩
 simp only[tt,seval]
theorem oR (full:Bool) (q:ByteArray):g6 293 [vs q] full (dY q):=by
 intro out hroom
 refine ae ab false Tryz.func293 rfl (by kernel_rfl) ?_
 simp only[Tryz.f293,tt,seval]
 refine aa (fun hq=>?_) (fun hq=>?_)
 ·have hq:¬q=⟨#[]⟩:=by simpa using hq
  rw[dY,if_neg hq] at hroom ⊢
  simp only[ll] at hroom
  refine cS (hY full q out (by (try simp only[ll] at *);omega)) ?_ ?_<;>simp only[tt,seval]
  refine cS (eT full ⟨#[46]⟩ (out++[nT q]) (by (try simp only[ll] at *);omega)) ?_ ?_<;>simp only[tt,seval]
  refine⟨.tu [],_,⟨rfl,i7 (l:=out++[nT q]++[gT ⟨#[46]⟩]) (by simp [EZ])⟩,am ?_⟩
  simp only[tt,seval]
 ·have hq:q=⟨#[]⟩:=by simpa using hq
  rw[dY,if_pos hq] at hroom ⊢
  simp only[tt,seval]
  refine⟨.tu [],_,⟨rfl,i7 (l:=out) (by first|rfl|exact (List.append_nil _).symm)⟩,am ?_⟩
  simp only[tt,seval]
theorem BI (full:Bool) (q:ByteArray):g6 294 [vs q] full (f4 q):=by
 intro out hroom
 refine ae ab false Tryz.func294 rfl (by kernel_rfl) ?_
 simp only[Tryz.f294,tt,seval]
 refine aa (fun hq=>?_) (fun hq=>?_)
 ·have hq:¬q=⟨#[]⟩:=by simpa using hq
  rw[f4,if_neg hq] at hroom ⊢
  simp only[ll] at hroom
  refine cS (GJ full out (by (try simp only[ll] at *);omega)) ?_ ?_<;>simp only[tt,seval]
  refine cS (hY full q (out++[kT 12]) (by (try simp only[ll] at *);omega)) ?_ ?_<;>simp only[tt,seval]
  refine⟨.tu [],_,⟨rfl,i7 (l:=out++[kT 12]++[nT q]) (by simp)⟩,am ?_⟩
  simp only[tt,seval]
 ·have hq:q=⟨#[]⟩:=by simpa using hq
  rw[f4,if_pos hq] at hroom ⊢
  simp only[tt,seval]
  refine⟨.tu [],_,⟨rfl,i7 (l:=out) (by first|rfl|exact (List.append_nil _).symm)⟩,am ?_⟩
  simp only[tt,seval]
theorem GM:oH 1=⟨#[79,82]⟩:=rfl
theorem GN:oH 2=⟨#[65,78,68]⟩:=rfl
theorem FB:oH 15=⟨#[78,79,84]⟩:=rfl
theorem qy (full:Bool) (op:Int):g6 299 [vi op] full ([dj op]):=by
 intro out hroom
 have hroom:out.length+1<=1000000:=hroom
 by_cases h1:op=1
 ·subst h1
  refine ae ab false Tryz.func299 rfl (by kernel_rfl) ?_
  simp only[Tryz.f299,tt,seval]
  refine cZ (fI 1) ?_ ?_<;>simp only[tt,seval]
  refine cS (GK full out (by (try simp only[ll] at *);omega)) ?_ ?_<;>simp only[tt,seval,GM]
  refine⟨.tu [],_,⟨rfl,i7 (l:=out++[kT 14]) (by rfl)⟩,am ?_⟩
  simp only[tt,seval]
 by_cases h2:op=2
 ·subst h2
  refine ae ab false Tryz.func299 rfl (by kernel_rfl) ?_
  simp only[Tryz.f299,tt,seval]
  refine cZ (fI 2) ?_ ?_<;>simp only[tt,seval]
  refine cS (EN full out (by (try simp only[ll] at *);omega)) ?_ ?_<;>simp only[tt,seval,GN]
  refine⟨.tu [],_,⟨rfl,i7 (l:=out++[kT 13]) (by rfl)⟩,am ?_⟩
  simp only[tt,seval]
 by_cases h3:op=15
 ·subst h3
  refine ae ab false Tryz.func299 rfl (by kernel_rfl) ?_
  simp only[Tryz.f299,tt,seval]
  refine cZ (fI 15) ?_ ?_<;>simp only[tt,seval]
  refine cS (EO full out (by (try simp only[ll] at *);omega)) ?_ ?_<;>simp only[tt,seval,FB]
  refine⟨.tu [],_,⟨rfl,i7 (l:=out++[kT 15]) (by rfl)⟩,am ?_⟩
  simp only[tt,seval]
 refine ae ab false Tryz.func299 rfl (by kernel_rfl) ?_
 simp only[Tryz.f299,tt,seval]
 simp only[tt,seval,ao h1,ao h2,h3]
 refine cZ (fI op) ?_ ?_<;>simp only[tt,seval]
 refine cS (eT full (oH op) out (by (try simp only[ll] at *);omega)) ?_ ?_<;>simp only[tt,seval]
 refine⟨.tu [],_,⟨rfl,i7 (l:=out++[gT (oH op)]) (by rw[dj,if_neg (fun h=>h.elim h1 fun h=>h.elim h2 h3)];rfl)⟩,am ?_⟩
 simp only[tt,seval]
def rX (full:Bool) (e:Expr) (l:List Tok):Prop:=g6 264 [.ag (av e.row)] full (l)
def F5 (full:Bool) (q:Query) (l:List Tok):Prop:=g6 258 [.ag (av q.row)] full (l)
theorem Dt (full:Bool) (q:Query) (l:List Tok) (h:F5 full q l):g6 301 [.ag (av q.row)] full (lG::(l++[lH])):=by
 intro out hroom
 simp only[ll] at hroom
 have h:g6 258 [.ag (av q.row)] full (l):=h
 obtain⟨distinct,items,from_,where_,order,limit⟩:=q
 rw[ar] at h ⊢
 refine ae ab false Tryz.func301 rfl (by kernel_rfl) ?_
 simp only[Tryz.f301,tt,seval]
 refine cS (eT full ⟨#[40]⟩ out (by (try simp only[ll] at *);omega)) ?_ ?_<;>simp only[tt,seval]
 refine cS (h (out++[gT ⟨#[40]⟩]) (by (try simp only[ll] at *);omega)) ?_ ?_<;>simp only[tt,seval]
 refine cS (eT full ⟨#[41]⟩ (out++[gT ⟨#[40]⟩]++l) (by (try simp only[ll] at *);omega)) ?_ ?_<;>simp only[tt,seval]
 refine⟨.tu [],_,⟨rfl,i7 (l:=out++[gT ⟨#[40]⟩]++l++[gT ⟨#[41]⟩]) (by simp [lG,lH])⟩,am ?_⟩
 simp only[tt,seval]
set_option maxHeartbeats 1000000 in
theorem ER (kind op:Int) (not:Bool) (val:Val) (qual name:ByteArray) (kids:List Expr) (sub:List Query) (full:Bool) (k:Nat) (hk:k<kids.length) (l:List Tok) (hx:rX full kids[k] l):g6 300 [.ag (av (Expr.mk kind op not val qual name kids sub).row),vi k] full (ov (C2 full kind op kids k) l):=by
 intro out hroom
 obtain⟨it,b5⟩:∃it,it=kids[k]:=⟨_,rfl⟩
 have hw:(C2 full kind op kids k)=(mM kind op kids k||(full&&decide (sE it<9))):=by rw[C2,List.getD_eq_getElem?_getD,ay hk,b5];rfl
 rw[hw] at hroom ⊢
 rw[<-b5] at hx
 have hx:g6 264 [.ag (av it.row)] full (l):=hx
 have hx0:kids[k]?=some it:=by rw[b5];exact ay hk
 have i0:((0:Int)<=(k:Int))=True:=eq_true (by omega)
 have iL:((k:Int)<(kids.length:Int))=True:=eq_true (by omega)
 have hlb:0<=sE it/\sE it<=9:=by unfold sE;exact nQ _ _
 have hlv:=mc it
 rw[ah]
 refine ae ab false Tryz.func300 rfl (by kernel_rfl) ?_
 simp only[Tryz.f300,tt,seval]
 refine cZ (vQ kind op not val qual name kids sub k hk) ?_ ?_<;>simp only[tt,seval,ah]
 cases hw1:mM kind op kids k
 case true=>
  rw[hw1] at hroom
  simp only[tt,seval]
  have hroom:out.length+(lG::(l++[lH])).length<=1000000:=hroom
  simp only[ll] at hroom
  refine cS (eT full ⟨#[40]⟩ out (by (try simp only[ll] at *);omega)) ?_ ?_<;>simp only[tt,seval,bi hx0 aC,i0,iL,Expr.tk,aC]
  refine cS (hx (out++[gT ⟨#[40]⟩]) (by (try simp only[ll] at *);omega)) ?_ ?_<;>simp only[tt,seval]
  refine cS (eT full ⟨#[41]⟩ (out++[gT ⟨#[40]⟩]++l) (by (try simp only[ll] at *);omega)) ?_ ?_<;>simp only[tt,seval]
  refine⟨.tu [],_,⟨rfl,i7 (l:=out++[gT ⟨#[40]⟩]++l++[gT ⟨#[41]⟩]) (by simp [ov,lG,lH])⟩,am ?_⟩
  simp only[tt,seval]
 case false=>
  simp only[tt,seval]
  cases full
  case false=>
   rw[hw1] at hroom
   simp only[tt,seval,bi hx0 aC,i0,iL,Expr.tk,aC]
   have hroom:out.length+l.length<=1000000:=hroom
   refine cS (hx out hroom) ?_ ?_<;>simp only[tt,seval]
   refine⟨.tu [],_,⟨rfl,i7 (l:=out++l) (by rfl)⟩,am ?_⟩
   simp only[tt,seval]
  case true=>
   simp only[tt,seval,bi hx0 aC,i0,iL,Expr.tk,aC]
   refine cZ (hlv) ?_ ?_<;>simp only[tt,seval,bi hx0 aC,i0,iL,Expr.tk,aC]
   rw[hw1] at hroom
   by_cases h9:sE it=9
   ·rw[ao (show ¬sE it<9 by omega)] at hroom ⊢
    simp only[tt,seval,h9]
    have hroom:out.length+l.length<=1000000:=hroom
    refine cS (hx out hroom) ?_ ?_<;>simp only[tt,seval]
    refine⟨.tu [],_,⟨rfl,i7 (l:=out++l) (by rfl)⟩,am ?_⟩
    simp only[tt,seval]
   ·rw[ap (show sE it<9 by omega)] at hroom ⊢
    simp only[tt,seval,h9]
    have hroom:out.length+(lG::(l++[lH])).length<=1000000:=hroom
    simp only[ll] at hroom
    refine cS (eT true ⟨#[40]⟩ out (by (try simp only[ll] at *);omega)) ?_ ?_<;>simp only[tt,seval,bi hx0 aC,i0,iL,Expr.tk,aC]
    refine cS (hx (out++[gT ⟨#[40]⟩]) (by (try simp only[ll] at *);omega)) ?_ ?_<;>simp only[tt,seval]
    refine cS (eT true ⟨#[41]⟩ (out++[gT ⟨#[40]⟩]++l) (by (try simp only[ll] at *);omega)) ?_ ?_<;>simp only[tt,seval]
    refine⟨.tu [],_,⟨rfl,i7 (l:=out++[gT ⟨#[40]⟩]++l++[gT ⟨#[41]⟩]) (by simp [ov,lG,lH])⟩,am ?_⟩
    simp only[tt,seval]
theorem tB (full:Bool) (l:List Expr) (g:Expr->List Tok) (hll:l.length<=1048576) (hg:∀x∈l,rX full x (g x)):g6 265 [.c (.sl l.length (l.flatMap Expr.row) none)] full (p5 g l):=by
 intro out hroom
 refine ae ab false Tryz.func265 rfl (by kernel_rfl) ?_
 simp only[Tryz.f265,tt,seval]
 refine fun _=>?_
 rcases hL:l with _|⟨e,r⟩
 ·rw[hL] at hroom
  simp only[tt,seval]
  refine⟨.tu [],_,⟨rfl,i7 (l:=out) (by exact (List.append_nil _).symm)⟩,am ?_⟩
  simp only[tt,seval]
 ·rw[<-hL]
  have hlen:l.length=r.length+1:=by rw[hL];rfl
  have hw:p5 g l=kT 6::g e:=by rw[hL];rfl
  have hx:g6 264 [.ag (av e.row)] full (g e):=hg e (by rw[hL];simp)
  have hpos:((0:Int)<l.length)=True:=eq_true (by omega)
  rw[hw] at hroom ⊢
  clear hw
  generalize g e=le at *
  simp only[ll] at hroom
  simp only[tt,seval,hpos]
  refine cS (Ec full out (by (try simp only[ll] at *);omega)) ?_ ?_<;>simp only[tt,seval,hpos,tZ hL aC,cx (aC e),aC]
  refine cS (hx (out++[kT 6]) (by (try simp only[ll] at *);omega)) ?_ ?_<;>simp only[tt,seval]
  refine⟨.tu [],_,⟨rfl,i7 (l:=out++[kT 6]++le) (by simp)⟩,am ?_⟩
  simp only[tt,seval]
set_option maxHeartbeats 2000000 in
theorem BJ (full:Bool) (i:Nat) (s:Source) (g:Expr->List Tok) (hll:s.on.length<=1048576) (hg:∀x∈s.on,rX full x (g x)):g6 295 [vi i,.ag (av s.row)] full (jV g i s):=by
 intro out hroom
 obtain⟨table,as_,on⟩:=s
 have hll:on.length<=1048576:=hll
 have hg:∀x∈on,rX full x (g x):=hg
 have hol:(on.length<=9223372036854775807)=True:=eq_true (by omega)
 rw[Source.row_mk]
 rcases hL:on with _|⟨e,r⟩
 ·have hle:vh g on=[]:=by rw[hL];rfl
  have hlen:on.length=0:=by rw[hL];rfl
  try rw[<-hL]
  have op:¬(0:Int)<on.length:=by omega
  by_cases hi0:i=0
  ·have ip:¬(0:Int)<i:=by omega
   have hsrc:jV g i (Source.mk table as_ on)=[]++(nT table::(f4 as_++[])):=by
    show (if 0<i then (if 0<on.length then [kT 4] else [kN]) else [])++(nT table::(f4 as_++vh g on))=_
    rw[hle]
    rw[if_neg (by omega)]
   rw[hsrc] at hroom ⊢
   simp only[ll] at hroom
   refine ae ab false Tryz.func295 rfl (by kernel_rfl) ?_
   simp only[Tryz.f295,tt,seval]
   simp only[tt,seval,ip]
   have hcm:ea i=[]:=if_neg (by omega)
   have hcom:=g7 full i
   rw[hcm] at hcom
   refine cS (hcom out (by (try simp only[ll] at *);omega)) ?_ ?_<;>simp only[tt,seval]
   refine cS (hY full table (out++[]) (by (try simp only[ll] at *);omega)) ?_ ?_<;>simp only[tt,seval]
   refine cS (BI full as_ (out++[]++[nT table]) (by (try simp only[ll] at *);omega)) ?_ ?_<;>simp only[tt,seval,hol,op]
   refine⟨.tu [],_,⟨rfl,i7 (l:=out++[]++[nT table]++f4 as_) (by simp)⟩,am ?_⟩
   simp only[tt,seval]
  ·have ip:(0:Int)<i:=by omega
   have hsrc:jV g i (Source.mk table as_ on)=[kN]++(nT table::(f4 as_++[])):=by
    show (if 0<i then (if 0<on.length then [kT 4] else [kN]) else [])++(nT table::(f4 as_++vh g on))=_
    rw[hle]
    rw[if_pos (by omega)];rw[if_neg (by omega)]
   rw[hsrc] at hroom ⊢
   simp only[ll] at hroom
   refine ae ab false Tryz.func295 rfl (by kernel_rfl) ?_
   simp only[Tryz.f295,tt,seval]
   simp only[tt,seval,hol,ip,op]
   have hcm:ea i=[kN]:=if_pos (by omega)
   have hcom:=g7 full i
   rw[hcm] at hcom
   refine cS (hcom out (by (try simp only[ll] at *);omega)) ?_ ?_<;>simp only[tt,seval]
   refine cS (hY full table (out++[kN]) (by (try simp only[ll] at *);omega)) ?_ ?_<;>simp only[tt,seval]
   refine cS (BI full as_ (out++[kN]++[nT table]) (by (try simp only[ll] at *);omega)) ?_ ?_<;>simp only[tt,seval,hol,op]
   refine⟨.tu [],_,⟨rfl,i7 (l:=out++[kN]++[nT table]++f4 as_) (by simp)⟩,am ?_⟩
   simp only[tt,seval]
 ·have hle0:vh g on=kT 5::g e:=by rw[hL];rfl
  have hlen:on.length=r.length+1:=by rw[hL];rfl
  have hxe:g6 264 [.ag (av e.row)] full (g e):=hg e (by rw[hL];simp)
  try rw[<-hL]
  obtain⟨le,hle1⟩:∃le,le=g e:=⟨_,rfl⟩
  have hle:vh g on=kT 5::le:=by rw[hle0,hle1]
  rw[<-hle1] at hxe
  have hpos:((0:Int)<on.length)=True:=eq_true (by omega)
  have op:(0:Int)<on.length:=by omega
  by_cases hi0:i=0
  ·have ip:¬(0:Int)<i:=by omega
   have hsrc:jV g i (Source.mk table as_ on)=[]++(nT table::(f4 as_++(kT 5::le))):=by
    show (if 0<i then (if 0<on.length then [kT 4] else [kN]) else [])++(nT table::(f4 as_++vh g on))=_
    rw[hle]
    rw[if_neg (by omega)]
   rw[hsrc] at hroom ⊢
   simp only[ll] at hroom
   refine ae ab false Tryz.func295 rfl (by kernel_rfl) ?_
   simp only[Tryz.f295,tt,seval]
   simp only[tt,seval,ip]
   have hcm:ea i=[]:=if_neg (by omega)
   have hcom:=g7 full i
   rw[hcm] at hcom
   refine cS (hcom out (by (try simp only[ll] at *);omega)) ?_ ?_<;>simp only[tt,seval]
   refine cS (hY full table (out++[]) (by (try simp only[ll] at *);omega)) ?_ ?_<;>simp only[tt,seval]
   refine cS (BI full as_ (out++[]++[nT table]) (by (try simp only[ll] at *);omega)) ?_ ?_<;>simp only[tt,seval,hol,op]
   refine cS (Gu full (out++[]++[nT table]++f4 as_) (by (try simp only[ll] at *);omega)) ?_ ?_<;>simp only[tt,seval,op,tZ hL aC,cx (aC e),aC]
   refine cS (hxe (out++[]++[nT table]++f4 as_++[kT 5]) (by (try simp only[ll] at *);omega)) ?_ ?_<;>simp only[tt,seval]
   refine⟨.tu [],_,⟨rfl,i7 (l:=out++[]++[nT table]++f4 as_++[kT 5]++le) (by simp)⟩,am ?_⟩
   simp only[tt,seval]
  ·have ip:(0:Int)<i:=by omega
   have hsrc:jV g i (Source.mk table as_ on)=[kT 4]++(nT table::(f4 as_++(kT 5::le))):=by
    show (if 0<i then (if 0<on.length then [kT 4] else [kN]) else [])++(nT table::(f4 as_++vh g on))=_
    rw[hle]
    rw[if_pos (by omega)];rw[if_pos (by omega)]
   rw[hsrc] at hroom ⊢
   simp only[ll] at hroom
   refine ae ab false Tryz.func295 rfl (by kernel_rfl) ?_
   simp only[Tryz.f295,tt,seval]
   simp only[tt,seval,hol,ip,op]
   refine cS (EM full out (by (try simp only[ll] at *);omega)) ?_ ?_<;>simp only[tt,seval]
   refine cS (hY full table (out++[kT 4]) (by (try simp only[ll] at *);omega)) ?_ ?_<;>simp only[tt,seval]
   refine cS (BI full as_ (out++[kT 4]++[nT table]) (by (try simp only[ll] at *);omega)) ?_ ?_<;>simp only[tt,seval,hol,op]
   refine cS (Gu full (out++[kT 4]++[nT table]++f4 as_) (by (try simp only[ll] at *);omega)) ?_ ?_<;>simp only[tt,seval,op,tZ hL aC,cx (aC e),aC]
   refine cS (hxe (out++[kT 4]++[nT table]++f4 as_++[kT 5]) (by (try simp only[ll] at *);omega)) ?_ ?_<;>simp only[tt,seval]
   refine⟨.tu [],_,⟨rfl,i7 (l:=out++[kT 4]++[nT table]++f4 as_++[kT 5]++le) (by simp)⟩,am ?_⟩
   simp only[tt,seval]
set_option maxHeartbeats 4000000 in
theorem zh (kind op:Int) (not:Bool) (val:Val) (qual name:ByteArray) (kids:List Expr) (sub:List Query) (full:Bool) (gf:Expr->Bool) (g:Expr->List Tok) (hf:wt gf (Expr.mk kind op not val qual name kids sub)=true) (hnum : -9223372036854775808<=val.num/\val.num<=9223372036854775807) (hg:∀x∈kids,rX full x (g x)) (hgq:∀q∈sub,F5 full q (jX g q)):rX full (Expr.mk kind op not val qual name kids sub) (p6 full g (Expr.mk kind op not val qual name kids sub)):=by
 intro out hroom
 have hkid:∀k (hk:k<kids.length),g6 300 [.ag (av (Expr.mk kind op not val qual name kids sub).row),vi k] full (bF full g kind op kids k):=fun k hk out hr=>by
  rw[xZ hk] at hr ⊢
  exact ER kind op not val qual name kids sub full k hk _ (hg _ (aI hk)) out hr
 have hsp:=(kU hf).1
 clear hf hg
 rw[ah]
 rcases kQ hsp with⟨rfl,hl,hk0,hs0⟩|⟨rfl,hn,hm,hk0,hs0⟩|⟨rfl,ho,hk0,hs0⟩|⟨rfl,ho,hk0,hs0⟩|⟨rfl,hk0,hs0⟩|⟨rfl,hk0,hs0⟩|⟨rfl,hk0,hs0⟩|⟨rfl,hk0,hs0⟩|⟨rfl,hk0,hs0⟩
 ·skip
  have e:p6 full g (Expr.mk 1 op not val qual name kids sub)=[fy val]:=rfl
  rw[e] at hroom ⊢
  clear e
  simp only[ll] at hroom
  refine ae ab false Tryz.func264 rfl (by kernel_rfl) ?_
  simp only[Tryz.f264,tt,seval]
  refine cS (EQ full val hl hnum.1 hnum.2 (out) (by (try simp only[ll] at *);omega)) ?_ ?_<;>simp only[tt,seval,Val.row]
  refine⟨.tu [],_,⟨rfl,i7 (l:=out++[fy val]) (by simp [])⟩,am ?_⟩
  simp only[tt,seval]
 ·skip
  have e:p6 full g (Expr.mk 2 op not val qual name kids sub)=dY qual++[nT name]:=rfl
  rw[e] at hroom ⊢
  clear e
  simp only[ll] at hroom
  refine ae ab false Tryz.func264 rfl (by kernel_rfl) ?_
  simp only[Tryz.f264,tt,seval]
  refine cS (oR full qual (out) (by (try simp only[ll] at *);omega)) ?_ ?_<;>simp only[tt,seval]
  refine cS (hY full name (out++dY qual) (by (try simp only[ll] at *);omega)) ?_ ?_<;>simp only[tt,seval]
  refine⟨.tu [],_,⟨rfl,i7 (l:=out++dY qual++[nT name]) (by simp [aJ])⟩,am ?_⟩
  simp only[tt,seval]
 ·skip
  have e:p6 full g (Expr.mk 3 op not val qual name kids sub)=dj op::bF full g 3 op kids 0:=rfl
  rw[e] at hroom ⊢
  clear e
  have hkid0:=hkid 0 (by omega)
  generalize bF full g 3 op kids 0=a0 at *
  simp only[ll] at hroom
  refine ae ab false Tryz.func264 rfl (by kernel_rfl) ?_
  simp only[Tryz.f264,tt,seval]
  refine cS (qy full op (out) (by (try simp only[ll] at *);omega)) ?_ ?_<;>simp only[tt,seval]
  refine cS (hkid0 (out++[dj op]) (by (try simp only[ll] at *);omega)) ?_ ?_<;>simp only[tt,seval,ah]
  refine⟨.tu [],_,⟨rfl,i7 (l:=out++[dj op]++a0) (by simp [aJ])⟩,am ?_⟩
  simp only[tt,seval]
 ·skip
  have e:p6 full g (Expr.mk 4 op not val qual name kids sub)=bF full g 4 op kids 0++(dj op::bF full g 4 op kids 1):=rfl
  rw[e] at hroom ⊢
  clear e
  have hkid0:=hkid 0 (by omega)
  generalize bF full g 4 op kids 0=a0 at *
  have hkid1:=hkid 1 (by omega)
  generalize bF full g 4 op kids 1=a1 at *
  simp only[ll] at hroom
  refine ae ab false Tryz.func264 rfl (by kernel_rfl) ?_
  simp only[Tryz.f264,tt,seval]
  refine cS (hkid0 (out) (by (try simp only[ll] at *);omega)) ?_ ?_<;>simp only[tt,seval,ah]
  refine cS (qy full op (out++a0) (by (try simp only[ll] at *);omega)) ?_ ?_<;>simp only[tt,seval]
  refine cS (hkid1 (out++a0++[dj op]) (by (try simp only[ll] at *);omega)) ?_ ?_<;>simp only[tt,seval,ah]
  refine⟨.tu [],_,⟨rfl,i7 (l:=out++a0++[dj op]++a1) (by simp [aJ])⟩,am ?_⟩
  simp only[tt,seval]
 ·skip
  have e:p6 full g (Expr.mk 5 op not val qual name kids sub)=bF full g 5 op kids 0++(kT 16::(bP not++[kT 20])):=rfl
  rw[e] at hroom ⊢
  clear e
  have hkid0:=hkid 0 (by omega)
  generalize bF full g 5 op kids 0=a0 at *
  simp only[ll] at hroom
  refine ae ab false Tryz.func264 rfl (by kernel_rfl) ?_
  simp only[Tryz.f264,tt,seval]
  refine cS (hkid0 (out) (by (try simp only[ll] at *);omega)) ?_ ?_<;>simp only[tt,seval,ah]
  refine cS (GL full (out++a0) (by (try simp only[ll] at *);omega)) ?_ ?_<;>simp only[tt,seval]
  refine cS (y0 full not (out++a0++[kT 16]) (by (try simp only[ll] at *);omega)) ?_ ?_<;>simp only[tt,seval]
  refine cS (EP full (out++a0++[kT 16]++bP not) (by (try simp only[ll] at *);omega)) ?_ ?_<;>simp only[tt,seval]
  refine⟨.tu [],_,⟨rfl,i7 (l:=out++a0++[kT 16]++bP not++[kT 20]) (by simp [aJ])⟩,am ?_⟩
  simp only[tt,seval]
 ·skip
  have e:p6 full g (Expr.mk 6 op not val qual name kids sub)=bF full g 6 op kids 0++(bP not++(kT 18::(bF full g 6 op kids 1++(kT 13::bF full g 6 op kids 2)))):=rfl
  rw[e] at hroom ⊢
  clear e
  have hkid0:=hkid 0 (by omega)
  generalize bF full g 6 op kids 0=a0 at *
  have hkid1:=hkid 1 (by omega)
  generalize bF full g 6 op kids 1=a1 at *
  have hkid2:=hkid 2 (by omega)
  generalize bF full g 6 op kids 2=a2 at *
  simp only[ll] at hroom
  refine ae ab false Tryz.func264 rfl (by kernel_rfl) ?_
  simp only[Tryz.f264,tt,seval]
  refine cS (hkid0 (out) (by (try simp only[ll] at *);omega)) ?_ ?_<;>simp only[tt,seval,ah]
  refine cS (y0 full not (out++a0) (by (try simp only[ll] at *);omega)) ?_ ?_<;>simp only[tt,seval]
  refine cS (BG full (out++a0++bP not) (by (try simp only[ll] at *);omega)) ?_ ?_<;>simp only[tt,seval]
  refine cS (hkid1 (out++a0++bP not++[kT 18]) (by (try simp only[ll] at *);omega)) ?_ ?_<;>simp only[tt,seval,ah]
  refine cS (EN full (out++a0++bP not++[kT 18]++a1) (by (try simp only[ll] at *);omega)) ?_ ?_<;>simp only[tt,seval]
  refine cS (hkid2 (out++a0++bP not++[kT 18]++a1++[kT 13]) (by (try simp only[ll] at *);omega)) ?_ ?_<;>simp only[tt,seval,ah]
  refine⟨.tu [],_,⟨rfl,i7 (l:=out++a0++bP not++[kT 18]++a1++[kT 13]++a2) (by simp [aJ])⟩,am ?_⟩
  simp only[tt,seval]
 ·skip
  have e:p6 full g (Expr.mk 7 op not val qual name kids sub)=bF full g 7 op kids 0++(bP not++(kT 17::lG::((bd (r3 full g 7 op kids) (kids.length-1))++[lH]))):=rfl
  rw[e] at hroom ⊢
  clear e
  simp only[ll] at hroom
  refine ae ab false Tryz.func264 rfl (by kernel_rfl) ?_
  simp only[Tryz.f264,tt,seval]
  have hkid0:=hkid 0 (by omega)
  obtain⟨a0,ha0⟩:∃a0,a0=bF full g 7 op kids 0:=⟨_,rfl⟩
  rw[<-ha0] at hkid0 hroom ⊢
  refine cS (hkid0 (out) (by (try simp only[ll] at *);omega)) ?_ ?_<;>simp only[tt,seval,ah]
  refine cS (y0 full not (out++a0) (by (try simp only[ll] at *);omega)) ?_ ?_<;>simp only[tt,seval]
  refine cS (Gv full (out++a0++bP not) (by (try simp only[ll] at *);omega)) ?_ ?_<;>simp only[tt,seval]
  refine cS (eT full ⟨#[40]⟩ (out++a0++bP not++[kT 17]) (by (try simp only[ll] at *);omega)) ?_ ?_<;>simp only[tt,seval]
  obtain⟨L0,hL0⟩:∃L0,L0=out++a0++bP not++[kT 17]++[lG]:=⟨_,rfl⟩
  have hL0l:L0.length=out.length+a0.length+(bP not).length+2:=by rw[hL0];simp only[ll]
  have hgt:out++a0++bP not++[kT 17]++[gT ⟨#[40]⟩]=L0:=by rw[hL0];rfl
  rw[hgt]
  refine dLoop.gh [.ren 10000105 10000120] ⟨by decide,by decide,?_⟩
  refine dLoop0.intro (fun f L p=>∃(j:Nat) (es:List Tok),f 4=vi (j+1:Nat)/\j<=kids.length-1/\es=L0++bd (r3 full g 7 op kids) j/\L=[(9000,.str [.s 10000120 (es).length,.v (.bool full)]),(10000120,.arr 76 (es).length ((es).flatMap Tok.row) none),(3,.str [.v (.int .i64 7),.v (.int .i64 op),.v (.bool not),.v (.int .i64 val.kind),.v (.int .i64 val.num),.v (.string val.text),.v (.string qual),.v (.string name),.sl kids.length (kids.flatMap Expr.row) none,.sl sub.length (sub.flatMap Query.row) none])]/\p=none) (fun f _ _=>(kids.length-aU (f 4)).toNat) [(9000,.str [.s 10000120 (L0).length,.v (.bool full)]),(10000120,.arr 76 (L0).length ((L0).flatMap Tok.row) none),(3,.str [.v (.int .i64 7),.v (.int .i64 op),.v (.bool not),.v (.int .i64 val.kind),.v (.int .i64 val.num),.v (.string val.text),.v (.string qual),.v (.string name),.sl kids.length (kids.flatMap Expr.row) none,.sl sub.length (sub.flatMap Query.row) none])] none ⟨ac rfl (ac rfl (ac rfl (ak _))),al _,?_⟩ ?_
  ·simp only[tt,seval]
   exact⟨0,L0,rfl,by omega,(List.append_nil _).symm,rfl⟩
  ·rintro g' L p ⟨j,es,hi,hjn,hes0,rfl,rfl⟩
   simp only[tt,seval] at hi
   simp only[tt,seval,hi]
   refine fun _=>aa (fun hlt=>?_) (fun hge=>?_)
   ·have hlt:j<kids.length-1:=by omega
    have hst:=bC (r3 full g 7 op kids) j
    have hlt2:=dH (r3 full g 7 op kids) hlt
    have hel:es.length=L0.length+(bd (r3 full g 7 op kids) j).length:=by rw[hes0,aA]
    have hfj:r3 full g 7 op kids j=ea j++bF full g 7 op kids (j+1):=rfl
    rw[hfj] at hst hlt2
    simp only[ll] at hlt2
    have hkj:=hkid (j+1) (by omega)
    generalize bF full g 7 op kids (j+1)=aj at *
    rw[ax (n:=((j+1:Nat):Int)-1) (by omega) (by omega),show ((j+1:Nat):Int)-1=(j:Int) by omega]
    refine cS (g7 full j es (by (try simp only[ll] at *);omega)) ?_ ?_<;>simp only[tt,seval,hi]
    refine cS (hkj (es++ea j) (by (try simp only[ll] at *);omega)) ?_ ?_<;>simp only[tt,seval,hi,ah]
    try rw[ax (n:=((j+1:Nat):Int)+1) (by omega) (by omega)]
    exact⟨[(9000,.str [.s 10000120 ((es++ea j++aj)).length,.v (.bool full)]),(10000120,.arr 76 ((es++ea j++aj)).length (((es++ea j++aj)).flatMap Tok.row) none),(3,.str [.v (.int .i64 7),.v (.int .i64 op),.v (.bool not),.v (.int .i64 val.kind),.v (.int .i64 val.num),.v (.string val.text),.v (.string qual),.v (.string name),.sl kids.length (kids.flatMap Expr.row) none,.sl sub.length (sub.flatMap Query.row) none])],none,ac rfl (ac rfl (ac rfl (ak _))),al _,⟨j+1,es++ea j++aj,rfl,by omega,by rw[hst,hes0];simp [aJ],rfl,rfl⟩,by simp only[aU];omega⟩
   ·have hje:j=kids.length-1:=by omega
    rw[hje] at hes0
    have hel:es.length=L0.length+(bd (r3 full g 7 op kids) (kids.length-1)).length:=by rw[hes0,aA]
    refine cS (eT full ⟨#[41]⟩ es (by (try simp only[ll] at *);omega)) ?_ ?_<;>simp only[tt,seval]
    refine⟨.tu [],_,⟨rfl,i7 (l:=es++[gT ⟨#[41]⟩]) (by rw[hes0,hL0];simp [lH,aJ])⟩,am ?_⟩
    simp only[tt,seval]
 ·skip
  obtain⟨q,hsub⟩:=nA hs0
  have hsl:lW g sub=jX g q:=by rw[hsub];rfl
  have hq:=hgq q (by rw[hsub];simp)
  have hpos:((0:Int)<sub.length)=True:=eq_true (by omega)
  have e:p6 full g (Expr.mk 8 op not val qual name kids sub)=bF full g 8 op kids 0++(bP not++(kT 17::lG::(lW g sub++[lH]))):=rfl
  rw[e] at hroom ⊢
  clear e
  have hkid0:=hkid 0 (by omega)
  generalize bF full g 8 op kids 0=a0 at *
  simp only[ll] at hroom
  refine ae ab false Tryz.func264 rfl (by kernel_rfl) ?_
  simp only[Tryz.f264,tt,seval]
  rw[hsl] at hroom ⊢
  refine cS (hkid0 (out) (by (try simp only[ll] at *);omega)) ?_ ?_<;>simp only[tt,seval,ah]
  refine cS (y0 full not (out++a0) (by (try simp only[ll] at *);omega)) ?_ ?_<;>simp only[tt,seval]
  refine cS (Gv full (out++a0++bP not) (by (try simp only[ll] at *);omega)) ?_ ?_<;>simp only[tt,seval,zc hsub,hpos,fT (Query.row_len q),Query.row_len]
  refine cS (Dt full q (jX g q) hq (out++a0++bP not++[kT 17]) (by (try simp only[ll] at *);omega)) ?_ ?_<;>simp only[tt,seval]
  refine⟨.tu [],_,⟨rfl,i7 (l:=out++a0++bP not++[kT 17]++(lG::(jX g q++[lH]))) (by simp [aJ])⟩,am ?_⟩
  simp only[tt,seval]
 ·skip
  obtain⟨q,hsub⟩:=nA hs0
  have hsl:lW g sub=jX g q:=by rw[hsub];rfl
  have hq:=hgq q (by rw[hsub];simp)
  have hpos:((0:Int)<sub.length)=True:=eq_true (by omega)
  have e:p6 full g (Expr.mk 9 op not val qual name kids sub)=kT 19::lG::(lW g sub++[lH]):=rfl
  rw[e] at hroom ⊢
  clear e
  simp only[ll] at hroom
  refine ae ab false Tryz.func264 rfl (by kernel_rfl) ?_
  simp only[Tryz.f264,tt,seval]
  rw[hsl] at hroom ⊢
  refine cS (D3 full (out) (by (try simp only[ll] at *);omega)) ?_ ?_<;>simp only[tt,seval,zc hsub,hpos,fT (Query.row_len q),Query.row_len]
  refine cS (Dt full q (jX g q) hq (out++[kT 19]) (by (try simp only[ll] at *);omega)) ?_ ?_<;>simp only[tt,seval]
  refine⟨.tu [],_,⟨rfl,i7 (l:=out++[kT 19]++(lG::(jX g q++[lH]))) (by simp [aJ])⟩,am ?_⟩
  simp only[tt,seval]
set_option maxHeartbeats 8000000 in
theorem qz (full:Bool) (gf:Expr->Bool) (g:Expr->List Tok) (q:Query) (hf:eZ gf q=true) (hlim:q.lim<=9223372036854775807) (hsz:aP q<=1048576) (hg:∀x∈exprsQ q,rX full x (g x)):F5 full q (jX g q):=by
 intro out hroom
 obtain⟨distinct,items,from_,where_,order,limit⟩:=q
 obtain⟨_,_,_,_,hl1,_,_,_⟩:=fv hf
 have hlim:limit<=9223372036854775807:=hlim
 rw[dc,db,cc,az,bK] at hsz
 have eq:exprsQ (.mk distinct items from_ where_ order limit)=aN items++from_.flatMap Source.on++where_++order.map SortKey.e:=rfl
 rw[eq] at hg
 have hgI:∀x∈items,x.star=false->rX full x.e (g x.e):=fun x hx hs=>hg _ (by
  simp only[List.mem_append,aN,List.mem_map,List.mem_filter]
  exact .inl (.inl (.inl ⟨_,⟨hx,by rw[hs];rfl⟩,rfl⟩)))
 have hgS:∀s∈from_,∀x∈s.on,rX full x (g x):=fun s hs x hx=>hg _ (by
  simp only[List.mem_append,List.mem_flatMap]
  exact .inl (.inl (.inr ⟨_,hs,hx⟩)))
 have hgW:∀x∈where_,rX full x (g x):=fun x hx=>hg _ (by simp [hx])
 have hgO:∀k∈order,rX full k.e (g k.e):=fun k hk=>hg _ (by
  simp only[List.mem_append,List.mem_map]
  exact .inr ⟨_,hk,rfl⟩)
 clear hf hg eq
 rw[ar]
 obtain⟨dl,hdl⟩:∃dl,dl=(if distinct=true then [kT 2] else []):=⟨_,rfl⟩
 have e:jX g (.mk distinct items from_ where_ order limit)=kT 1::(dl++(bd (fG g items) items.length++(kT 3::(bd (gH g from_) from_.length++(p5 g where_++(bd (jW g order) order.length++tg limit)))))):=by rw[hdl];rfl
 rw[e] at hroom ⊢
 clear e
 simp only[ll] at hroom
 refine ae ab false Tryz.func258 rfl (by kernel_rfl) ?_
 simp only[Tryz.f258,tt,seval]
 refine cS (D2 full out (by (try simp only[ll] at *);omega)) ?_ ?_<;>simp only[tt,seval]
 refine aa (fun hd=>?_) (fun hd=>?_)
 all_goals first
  | (have hd1:dl=[kT 2]:=by rw[hdl,if_pos hd]
     have hd2:dl.length=1:=by rw[hd1];rfl
     refine CallQ.intro (zg full (out++[kT 1]) (by (try simp only[ll] at *);omega)) ?_ ?_ ?_
     ·decide
     ·simp only[tt,seval]
     rintro r os ⟨rfl,rfl⟩ hos
     simp only[tt,seval]
     refine fun _=>?_
     rw[<-hd1]
     refine dLoop.gh [.ren 10000015 10000042] ⟨by decide,by decide,?_⟩)
  | (have hd1:dl=[]:=by rw[hdl,hd];rfl
     refine fun _=>?_
     rw[show out++[kT 1]=out++[kT 1]++dl by rw[hd1,List.append_nil]]
     refine dLoop.gh [.ren 10000011 10000042] ⟨by decide,by decide,?_⟩)
 all_goals
  obtain⟨L1,hL1⟩:∃L1,L1=out++[kT 1]++dl:=⟨_,rfl⟩
  rw[<-hL1]
  have hel1:L1.length=out.length+1+dl.length:=by rw[hL1];simp only[ll]
  refine dLoop0.introR (fun f L p=>∃(i:Nat) (es:List Tok),f 19=vi i/\i<=items.length/\es=L1++bd (fG g items) i/\L=[(9000,.str [.s 10000042 (es).length,.v (.bool full)]),(10000042,.arr 76 (es).length ((es).flatMap Tok.row) none),(3,.str [.v (.bool distinct),.sl items.length (items.flatMap Item.row) none,.sl from_.length (from_.flatMap Source.row) none,.sl where_.length (where_.flatMap Expr.row) none,.sl order.length (order.flatMap SortKey.row) none,.v (.int .i64 limit)])]/\p=none) (fun f _ _=>(items.length-aU (f 19)).toNat) [(9000,.str [.s 10000042 (L1).length,.v (.bool full)]),(10000042,.arr 76 (L1).length ((L1).flatMap Tok.row) none),(3,.str [.v (.bool distinct),.sl items.length (items.flatMap Item.row) none,.sl from_.length (from_.flatMap Source.row) none,.sl where_.length (where_.flatMap Expr.row) none,.sl order.length (order.flatMap SortKey.row) none,.v (.int .i64 limit)])] none ⟨ac rfl (ac rfl (ac rfl (ak _))),al _,?_⟩ ?_
  ·simp only[tt,seval]
   exact⟨0,L1,rfl,by omega,(List.append_nil _).symm,rfl⟩
  rintro g' L p ⟨i,e1,hi19,hi,he1,rfl,rfl⟩
  simp only[tt,seval] at hi19
  simp only[tt,seval,hi19,Int.ofNat_lt]
  refine aa (fun hlt=>?_) (fun hge=>?_)
  ·have hlt:i<items.length:=by omega
   have hst:=bC (fG g items) i
   have hlt2:=dH (fG g items) hlt
   have hel:e1.length=L1.length+(bd (fG g items) i).length:=by rw[he1,aA]
   obtain⟨it,b5⟩:∃it,it=items[i]:=⟨_,rfl⟩
   have hx:items[i]?=some it:=by rw[b5];exact ay hlt
   have hmem:it∈items:=by rw[b5];exact aI hlt
   have i0:((0:Int)<=(i:Int))=True:=eq_true (by omega)
   have iL:((i:Int)<(items.length:Int))=True:=eq_true (by omega)
   have iT:(i<items.length)=True:=eq_true hlt
   have hgi:=hgI it hmem
   have hit2:fG g items i=ea i++fu g it:=by rw[fG,bU hlt,b5]
   obtain⟨star,qual,⟨k0,o0,n0,v0,q0,m0,ks0,ss0⟩,as_⟩:=it
   rw[hit2] at hlt2
   simp only[ll] at hlt2
   simp only[tt,seval,bi hx Item.row_len,i0,iT,Item.row_mk,ah]
   have hcm:=Nat.zero_le (fu g (Item.mk star qual (Expr.mk k0 o0 n0 v0 q0 m0 ks0 ss0) as_)).length
   refine cS (g7 full i e1 (by (try simp only[ll] at *);omega)) ?_ ?_<;>simp only[tt,seval]
   cases star
   case true=>
    have hi3:fu g (.mk true qual (Expr.mk k0 o0 n0 v0 q0 m0 ks0 ss0) as_)=dY qual++[E1]:=rfl
    rw[hi3] at hlt2 hit2
    simp only[ll] at hlt2
    simp only[tt,seval]
    refine cS (oR full qual (e1++ea i) (by (try simp only[ll] at *);omega)) ?_ ?_<;>simp only[tt,seval]
    refine cS (eT full ⟨#[42]⟩ (e1++ea i++dY qual) (by (try simp only[ll] at *);omega)) ?_ ?_<;>simp only[tt,seval,hi19]
    try rw[dk i (by omega)]
    refine⟨[.ren 10000034 10000042],by decide,by decide,?_⟩
    simp only[tt,seval,pm]
    exact⟨[(9000,.str [.s 10000042 (e1++ea i++dY qual++[gT ⟨#[42]⟩]).length,.v (.bool full)]),(10000042,.arr 76 (e1++ea i++dY qual++[gT ⟨#[42]⟩]).length ((e1++ea i++dY qual++[gT ⟨#[42]⟩]).flatMap Tok.row) none),(3,.str [.v (.bool distinct),.sl items.length (items.flatMap Item.row) none,.sl from_.length (from_.flatMap Source.row) none,.sl where_.length (where_.flatMap Expr.row) none,.sl order.length (order.flatMap SortKey.row) none,.v (.int .i64 limit)])],none,ac rfl (ac rfl (ac rfl (ak _))),al _,⟨i+1,e1++ea i++dY qual++[gT ⟨#[42]⟩],rfl,by omega,by rw[hst,he1,hit2];simp [E1,aJ],rfl,rfl⟩,by simp only[aU];omega⟩
   case false=>
    have hx0:g6 264 [.ag (av (Expr.mk k0 o0 n0 v0 q0 m0 ks0 ss0).row)] full (g (Expr.mk k0 o0 n0 v0 q0 m0 ks0 ss0)):=hgi rfl
    have hi3:fu g (.mk false qual (Expr.mk k0 o0 n0 v0 q0 m0 ks0 ss0) as_)=g (Expr.mk k0 o0 n0 v0 q0 m0 ks0 ss0)++f4 as_:=rfl
    rw[hi3] at hlt2 hit2
    generalize g (Expr.mk k0 o0 n0 v0 q0 m0 ks0 ss0)=le at *
    simp only[ll] at hlt2
    simp only[tt,seval]
    refine cS (hx0 (e1++ea i) (by (try simp only[ll] at *);omega)) ?_ ?_<;>simp only[tt,seval,ah]
    refine cS (BI full as_ (e1++ea i++le) (by (try simp only[ll] at *);omega)) ?_ ?_<;>simp only[tt,seval,hi19]
    try rw[dk i (by omega)]
    refine⟨[],?_⟩
    simp only[tt,seval,pm]
    exact⟨[(9000,.str [.s 10000042 (e1++ea i++le++f4 as_).length,.v (.bool full)]),(10000042,.arr 76 (e1++ea i++le++f4 as_).length ((e1++ea i++le++f4 as_).flatMap Tok.row) none),(3,.str [.v (.bool distinct),.sl items.length (items.flatMap Item.row) none,.sl from_.length (from_.flatMap Source.row) none,.sl where_.length (where_.flatMap Expr.row) none,.sl order.length (order.flatMap SortKey.row) none,.v (.int .i64 limit)])],none,ac rfl (ac rfl (ac rfl (ak _))),al _,⟨i+1,e1++ea i++le++f4 as_,rfl,by omega,by rw[hst,he1,hit2];simp [aJ],rfl,rfl⟩,by simp only[aU];omega⟩
  have hie:i=items.length:=by omega
  subst hie
  have hel19:e1.length=L1.length+(bd (fG g items) items.length).length:=by rw[he1,aA]
  clear hi hge
  refine cS (EL full e1 (by (try simp only[ll] at *);omega)) ?_ ?_<;>simp only[tt,seval]
  refine fun _=>?_
  obtain⟨L2,hL2⟩:∃L2,L2=e1++[kT 3]:=⟨_,rfl⟩
  have hl2:L2.length=e1.length+1:=by rw[hL2];simp only[ll]
  rw[<-hL2]
  refine dLoop.gh [.ren 10000045 10000057] ⟨by decide,by decide,?_⟩
  refine dLoop0.introR (fun f L p=>∃(i:Nat) (es:List Tok),f 49=vi i/\i<=from_.length/\es=L2++bd (gH g from_) i/\L=[(9000,.str [.s 10000057 (es).length,.v (.bool full)]),(10000057,.arr 76 (es).length ((es).flatMap Tok.row) none),(3,.str [.v (.bool distinct),.sl items.length (items.flatMap Item.row) none,.sl from_.length (from_.flatMap Source.row) none,.sl where_.length (where_.flatMap Expr.row) none,.sl order.length (order.flatMap SortKey.row) none,.v (.int .i64 limit)])]/\p=none) (fun f _ _=>(from_.length-aU (f 49)).toNat) [(9000,.str [.s 10000057 (L2).length,.v (.bool full)]),(10000057,.arr 76 (L2).length ((L2).flatMap Tok.row) none),(3,.str [.v (.bool distinct),.sl items.length (items.flatMap Item.row) none,.sl from_.length (from_.flatMap Source.row) none,.sl where_.length (where_.flatMap Expr.row) none,.sl order.length (order.flatMap SortKey.row) none,.v (.int .i64 limit)])] none ⟨ac rfl (ac rfl (ac rfl (ak _))),al _,?_⟩ ?_
  ·simp only[tt,seval]
   exact⟨0,L2,rfl,by omega,(List.append_nil _).symm,rfl⟩
  rintro g' L p ⟨i,e2,hi49,hi,he2,rfl,rfl⟩
  simp only[tt,seval] at hi49
  simp only[tt,seval,hi49,Int.ofNat_lt]
  refine aa (fun hlt=>?_) (fun hge=>?_)
  ·have hlt:i<from_.length:=by omega
   have hst:=bC (gH g from_) i
   have hlt2:=dH (gH g from_) hlt
   have hel:e2.length=L2.length+(bd (gH g from_) i).length:=by rw[he2,aA]
   obtain⟨it,b5⟩:∃it,it=from_[i]:=⟨_,rfl⟩
   have hx:from_[i]?=some it:=by rw[b5];exact ay hlt
   have hmem:it∈from_:=by rw[b5];exact aI hlt
   have i0:((0:Int)<=(i:Int))=True:=eq_true (by omega)
   have iL:((i:Int)<(from_.length:Int))=True:=eq_true (by omega)
   have iT:(i<from_.length)=True:=eq_true hlt
   have hgi:=hgS it hmem
   have hso:=bZ bW hmem
   have hit2:gH g from_ i=jV g i it:=by rw[gH,bU hlt,b5]
   rw[hit2] at hlt2
   obtain⟨table,as_,on⟩:=it
   rw[cI,az] at hso
   simp only[tt,seval,bi hx Source.row_len,i0,iT,Source.row_mk]
   refine cS (BJ full i (Source.mk table as_ on) g (by show on.length<=_;omega) hgi e2 (by (try simp only[ll] at *);omega)) ?_ ?_<;>simp only[tt,seval,hi49,Source.row_mk]
   try rw[dk i (by omega)]
   refine⟨[],?_⟩
   simp only[tt,seval,pm]
   exact⟨[(9000,.str [.s 10000057 (e2++jV g i (Source.mk table as_ on)).length,.v (.bool full)]),(10000057,.arr 76 (e2++jV g i (Source.mk table as_ on)).length ((e2++jV g i (Source.mk table as_ on)).flatMap Tok.row) none),(3,.str [.v (.bool distinct),.sl items.length (items.flatMap Item.row) none,.sl from_.length (from_.flatMap Source.row) none,.sl where_.length (where_.flatMap Expr.row) none,.sl order.length (order.flatMap SortKey.row) none,.v (.int .i64 limit)])],none,ac rfl (ac rfl (ac rfl (ak _))),al _,⟨i+1,e2++jV g i (Source.mk table as_ on),rfl,by omega,by rw[hst,he2,hit2];simp [aJ],rfl,rfl⟩,by simp only[aU];omega⟩
  have hie:i=from_.length:=by omega
  subst hie
  have hel49:e2.length=L2.length+(bd (gH g from_) from_.length).length:=by rw[he2,aA]
  clear hi hge
  refine cS (tB full where_ g (by omega) hgW e2 (by (try simp only[ll] at *);omega)) ?_ ?_<;>simp only[tt,seval]
  refine fun _=>?_
  obtain⟨L3,hL3⟩:∃L3,L3=e2++p5 g where_:=⟨_,rfl⟩
  have hl3:L3.length=e2.length+(p5 g where_).length:=by rw[hL3];simp only[ll]
  rw[<-hL3]
  refine dLoop.gh [.ren 10000062 10000085] ⟨by decide,by decide,?_⟩
  refine dLoop0.introR (fun f L p=>∃(i:Nat) (es:List Tok),f 66=vi i/\i<=order.length/\es=L3++bd (jW g order) i/\L=[(9000,.str [.s 10000085 (es).length,.v (.bool full)]),(10000085,.arr 76 (es).length ((es).flatMap Tok.row) none),(3,.str [.v (.bool distinct),.sl items.length (items.flatMap Item.row) none,.sl from_.length (from_.flatMap Source.row) none,.sl where_.length (where_.flatMap Expr.row) none,.sl order.length (order.flatMap SortKey.row) none,.v (.int .i64 limit)])]/\p=none) (fun f _ _=>(order.length-aU (f 66)).toNat) [(9000,.str [.s 10000085 (L3).length,.v (.bool full)]),(10000085,.arr 76 (L3).length ((L3).flatMap Tok.row) none),(3,.str [.v (.bool distinct),.sl items.length (items.flatMap Item.row) none,.sl from_.length (from_.flatMap Source.row) none,.sl where_.length (where_.flatMap Expr.row) none,.sl order.length (order.flatMap SortKey.row) none,.v (.int .i64 limit)])] none ⟨ac rfl (ac rfl (ac rfl (ak _))),al _,?_⟩ ?_
  ·simp only[tt,seval]
   exact⟨0,L3,rfl,by omega,(List.append_nil _).symm,rfl⟩
  rintro g' L p ⟨i,e3,hi66,hi,he3,rfl,rfl⟩
  simp only[tt,seval] at hi66
  simp only[tt,seval,hi66,Int.ofNat_lt]
  refine aa (fun hlt=>?_) (fun hge=>?_)
  ·have hlt:i<order.length:=by omega
   have hst:=bC (jW g order) i
   have hlt2:=dH (jW g order) hlt
   have hel:e3.length=L3.length+(bd (jW g order) i).length:=by rw[he3,aA]
   obtain⟨it,b5⟩:∃it,it=order[i]:=⟨_,rfl⟩
   have hx:order[i]?=some it:=by rw[b5];exact ay hlt
   have hmem:it∈order:=by rw[b5];exact aI hlt
   have i0:((0:Int)<=(i:Int))=True:=eq_true (by omega)
   have iL:((i:Int)<(order.length:Int))=True:=eq_true (by omega)
   have iT:(i<order.length)=True:=eq_true hlt
   have hgi:=hgO it hmem
   have hit2:jW g order i=(if i=0 then [kT 7,kT 8] else [kN])++wv g it:=by rw[jW,bU hlt,b5]
   obtain⟨⟨k0,o0,n0,v0,q0,m0,ks0,ss0⟩,desc⟩:=it
   have hx0:g6 264 [.ag (av (Expr.mk k0 o0 n0 v0 q0 m0 ks0 ss0).row)] full (g (Expr.mk k0 o0 n0 v0 q0 m0 ks0 ss0)):=hgi
   have hkt:wv g (SortKey.mk (Expr.mk k0 o0 n0 v0 q0 m0 ks0 ss0) desc)=g (Expr.mk k0 o0 n0 v0 q0 m0 ks0 ss0)++(if desc=true then [kT 10] else []):=rfl
   rw[hkt] at hit2
   generalize g (Expr.mk k0 o0 n0 v0 q0 m0 ks0 ss0)=le at *
   rw[hit2] at hlt2
   have hop:0<=(if desc=true then [kT 10] else []).length:=Nat.zero_le _
   simp only[tt,seval,bi hx SortKey.row_len,i0,iT,SortKey.row_mk,ah]
   refine aa (fun hc=>?_) (fun hc=>?_)
   ·have hc:i=0:=by omega
    rw[if_pos hc] at hlt2 hit2
    simp only[ll] at hlt2
    have hcm:ea i=[]:=if_neg (by omega)
    have hcom:=g7 full i
    rw[hcm] at hcom
    refine cS (BF full e3 (by (try simp only[ll] at *);omega)) ?_ ?_<;>simp only[tt,seval]
    refine cS (hcom (e3++[kT 7,kT 8]) (by (try simp only[ll] at *);omega)) ?_ ?_<;>simp only[tt,seval]
    refine cS (hx0 (e3++[kT 7,kT 8]++[]) (by (try simp only[ll] at *);omega)) ?_ ?_<;>simp only[tt,seval,hi66,ah]
    cases desc
    case true=>
     rw[if_pos rfl] at hlt2 hit2
     simp only[ll] at hlt2
     simp only[tt,seval]
     refine cS (Ds full (e3++[kT 7,kT 8]++le) (by (try simp only[ll] at *);omega)) ?_ ?_<;>simp only[tt,seval,hi66]
     try rw[dk i (by omega)]
     refine⟨[],?_⟩
     simp only[tt,seval,pm]
     exact⟨[(9000,.str [.s 10000085 (e3++[kT 7,kT 8]++le++[kT 10]).length,.v (.bool full)]),(10000085,.arr 76 (e3++[kT 7,kT 8]++le++[kT 10]).length ((e3++[kT 7,kT 8]++le++[kT 10]).flatMap Tok.row) none),(3,.str [.v (.bool distinct),.sl items.length (items.flatMap Item.row) none,.sl from_.length (from_.flatMap Source.row) none,.sl where_.length (where_.flatMap Expr.row) none,.sl order.length (order.flatMap SortKey.row) none,.v (.int .i64 limit)])],none,ac rfl (ac rfl (ac rfl (ak _))),al _,⟨i+1,e3++[kT 7,kT 8]++le++[kT 10],rfl,by omega,by rw[hst,he3,hit2];simp [aJ],rfl,rfl⟩,by simp only[aU];omega⟩
    case false=>
     rw[if_neg Bool.false_ne_true] at hlt2 hit2
     simp only[tt,seval]
     try rw[dk i (by omega)]
     refine⟨[.ren 10000081 10000085],by decide,by decide,?_⟩
     simp only[tt,seval,pm]
     exact⟨[(9000,.str [.s 10000085 (e3++[kT 7,kT 8]++le).length,.v (.bool full)]),(10000085,.arr 76 (e3++[kT 7,kT 8]++le).length ((e3++[kT 7,kT 8]++le).flatMap Tok.row) none),(3,.str [.v (.bool distinct),.sl items.length (items.flatMap Item.row) none,.sl from_.length (from_.flatMap Source.row) none,.sl where_.length (where_.flatMap Expr.row) none,.sl order.length (order.flatMap SortKey.row) none,.v (.int .i64 limit)])],none,ac rfl (ac rfl (ac rfl (ak _))),al _,⟨i+1,e3++[kT 7,kT 8]++le,rfl,by omega,by rw[hst,he3,hit2];simp [aJ],rfl,rfl⟩,by simp only[aU];omega⟩
   ·have hc:¬i=0:=by omega
    rw[if_neg hc] at hlt2 hit2
    simp only[ll] at hlt2
    have hcm:ea i=[kN]:=if_pos (by omega)
    have hcom:=g7 full i
    rw[hcm] at hcom
    refine cS (hcom (e3) (by (try simp only[ll] at *);omega)) ?_ ?_<;>simp only[tt,seval]
    refine cS (hx0 (e3++[kN]) (by (try simp only[ll] at *);omega)) ?_ ?_<;>simp only[tt,seval,hi66,ah]
    cases desc
    case true=>
     rw[if_pos rfl] at hlt2 hit2
     simp only[ll] at hlt2
     simp only[tt,seval]
     refine cS (Ds full (e3++[kN]++le) (by (try simp only[ll] at *);omega)) ?_ ?_<;>simp only[tt,seval,hi66]
     try rw[dk i (by omega)]
     refine⟨[],?_⟩
     simp only[tt,seval,pm]
     exact⟨[(9000,.str [.s 10000085 (e3++[kN]++le++[kT 10]).length,.v (.bool full)]),(10000085,.arr 76 (e3++[kN]++le++[kT 10]).length ((e3++[kN]++le++[kT 10]).flatMap Tok.row) none),(3,.str [.v (.bool distinct),.sl items.length (items.flatMap Item.row) none,.sl from_.length (from_.flatMap Source.row) none,.sl where_.length (where_.flatMap Expr.row) none,.sl order.length (order.flatMap SortKey.row) none,.v (.int .i64 limit)])],none,ac rfl (ac rfl (ac rfl (ak _))),al _,⟨i+1,e3++[kN]++le++[kT 10],rfl,by omega,by rw[hst,he3,hit2];simp [aJ],rfl,rfl⟩,by simp only[aU];omega⟩
    case false=>
     rw[if_neg Bool.false_ne_true] at hlt2 hit2
     simp only[tt,seval]
     try rw[dk i (by omega)]
     refine⟨[.ren 10000081 10000085],by decide,by decide,?_⟩
     simp only[tt,seval,pm]
     exact⟨[(9000,.str [.s 10000085 (e3++[kN]++le).length,.v (.bool full)]),(10000085,.arr 76 (e3++[kN]++le).length ((e3++[kN]++le).flatMap Tok.row) none),(3,.str [.v (.bool distinct),.sl items.length (items.flatMap Item.row) none,.sl from_.length (from_.flatMap Source.row) none,.sl where_.length (where_.flatMap Expr.row) none,.sl order.length (order.flatMap SortKey.row) none,.v (.int .i64 limit)])],none,ac rfl (ac rfl (ac rfl (ak _))),al _,⟨i+1,e3++[kN]++le,rfl,by omega,by rw[hst,he3,hit2];simp [aJ],rfl,rfl⟩,by simp only[aU];omega⟩
  have hie:i=order.length:=by omega
  subst hie
  have hel66:e3.length=L3.length+(bd (jW g order) order.length).length:=by rw[he3,aA]
  clear hi hge
  refine aa (fun hlm=>?_) (fun hlm=>?_)
  ·rw[tg,if_pos hlm] at hroom ⊢
   simp only[ll] at hroom
   refine cS (Ed full e3 (by (try simp only[ll] at *);omega)) ?_ ?_<;>simp only[tt,seval]
   refine cZ (l5 limit (by omega) hlim) ?_ ?_<;>simp only[tt,seval]
   refine cS (rV full 3 (dV limit) (e3++[kT 11]) (by (try simp only[ll] at *);omega)) ?_ ?_<;>simp only[tt,seval]
   refine⟨.tu [],_,⟨rfl,i7 (l:=e3++[kT 11]++[Tok.mk 3 (dV limit) 0]) (by rw[he3,hL3,he2,hL2,he1,hL1];simp [iT,aJ])⟩,am ?_⟩
   simp only[tt,seval]
  ·rw[tg,if_neg hlm] at hroom ⊢
   simp only[ll] at hroom
   simp only[tt,seval]
   refine⟨.tu [],_,⟨rfl,i7 (l:=e3) (by rw[he3,hL3,he2,hL2,he1,hL1];simp [aJ])⟩,am ?_⟩
   simp only[tt,seval]
theorem Ee (full:Bool) (e:Expr):fmE e=true->Rg e->aw e<=1048576->rX full e (nz full e):=by
 refine mw (F1:=wt) (F2:=xR) (F3:=p6 full) (P:=fun e f n t=>f=true->Rg e->aw e<=1048576->rX full e t) (fun e gf gn g hg hf hr hsz=>?_) e
 have hb:∀x,eW x e->gf x=true->rX full x (g x):=fun x hx hx'=>hg x hx hx' (th hr hx) (Nat.le_trans (fj hx) hsz)
 have hs:∀q∈e.sub,q.lim<=9223372036854775807/\aP q<=1048576:=fun q hq=>⟨(ww hr hq).1,Nat.le_trans (jx hq) hsz⟩
 obtain⟨kind,op,not,val,qual,name,kids,sub⟩:=e
 obtain⟨h1,h2,h3⟩:=kU hf
 refine zh kind op not val qual name kids sub full gf g hf hr.num (fun x hx=>hb x (.inl hx) (h2 x hx)) fun q hq=>?_
 refine qz full gf g q (h3 q hq) (hs q hq).1 (hs q hq).2 fun x hx=>hb x (.inr ⟨q,hq,hx⟩) ?_
 have h4:=h3 q hq
 obtain⟨d,it,fr,wh,od,li⟩:=q
 exact (fv h4).2.2.2.2.2.2.2 x hx
end Go.Proofs.YteffjmaadkkmeaaGreatDoor
