/-
  The printers of statements.
  Conditions: none.
-/
import Derived.Test.YteffjmaadkkmeaaGreatDoorRPF3
import Derived.Test.YteffjmaadkkmeaaGreatDoorRPJ2
set_option linter.unusedVariables false
set_option linter.unusedSimpArgs false
set_option linter.unusedSectionVars false
set_option maxRecDepth 8000
namespace Go.Proofs.YteffjmaadkkmeaaGreatDoor
open Go Go.Dv
open Go.Vc (D cY d3 cN bk)
def Ef:Tok:=gT ⟨#[61]⟩
def pd (g:Expr->List Tok) (l:List Expr) (i:Nat):List Tok:=ea i++vG l g i
def tC (g:Expr->List Tok) (x:ERow):List Tok:=lG::(bd (pd g x.l) x.l.length++[lH])
def eI (g:Expr->List Tok) (rows:List ERow) (i:Nat):List Tok:=ea i++vG rows (tC g) i
def fw (g:Expr->List Tok) (cols:List ByteArray) (sets:List Expr) (i:Nat):List Tok:=ea i++(vG cols (fun c=>[nT c,Ef]) i++vG sets g i)
def fx (g:Expr->List Tok):Stmt->List Tok
 |.mk kind q table rows cols sets where2=>
  if kind=1 then jX g q else if kind=2 then kT 23::kT 24::nT table::kT 25::bd (eI g rows) rows.length
  else if kind=3 then kT 26::nT table::kT 27::(bd (fw g cols sets) cols.length++p5 g where2) else kT 28::kT 3::nT table::p5 g where2
section
variable {gn:Expr->Nat} {g:Expr->List Tok}
theorem Eg {l:List Expr} (h:∀x∈l,Sm (150*gn x) (g x)):Sm (l.length+150*(l.map gn).sum) (bd (pd g l) l.length):=by
 have s1:Sm _ (bd (pd g l) l.length):=Sm.seq (b:=fun i=>1+kP (fun x=>150*gn x) l[i]?) fun i hi=>by
  show Sm _ (ea i++vG l g i)
  rw[bU hi]
  simp only[ay hi,kP]
  exact (Sm.ite (Sm.one (by decide)) (Sm.nil.le (by omega):Sm 1 [])).app (h _ (aI hi))
 rw[fU l 1 (fun x=>150*gn x),po] at s1
 exact s1.le (by omega)
theorem D6 {rows:List ERow} (hr:rows.all wy=true) (h:∀x∈rows.flatMap ERow.l,Sm (150*gn x) (g x)):Sm (15*rows.length+150*((rows.flatMap ERow.l).map gn).sum) (bd (eI g rows) rows.length):=by
 have s1:Sm _ (bd (eI g rows) rows.length):=Sm.seq (b:=fun i=>15+kP (fun x:ERow=>150*(x.l.map gn).sum) rows[i]?) fun i hi=>by
  have hm:=aI hi
  have h12:=List.all_eq_true.1 hr _ hm
  simp only[wy,decide_eq_true_eq] at h12
  show Sm _ (ea i++vG rows (tC g) i)
  rw[bU hi]
  simp only[ay hi,kP]
  have se:=Eg (gn:=gn) (g:=g) (l:=rows[i].l) fun x hx=>h x (List.mem_flatMap.2 ⟨_,hm,hx⟩)
  exact ((Sm.ite (Sm.one (by decide)) (Sm.nil.le (by omega):Sm 1 [])).app (Sm.cons (by decide) (se.app (Sm.one (by decide))))).le (by omega)
 rw[fU rows 15 (fun x:ERow=>150*(x.l.map gn).sum)] at s1
 have e:(rows.map fun x:ERow=>150*(x.l.map gn).sum).sum=150*((rows.flatMap ERow.l).map gn).sum:=by
  clear s1 h hr
  induction rows with
  |nil=>rfl
  |cons x r ih=>rw[List.map_cons,List.sum_cons,ih,List.flatMap_cons,List.map_append,List.sum_append,Nat.mul_add]
 rw[e] at s1
 exact s1
theorem D7 {cols:List ByteArray} {sets:List Expr} (hc:cols.all b9=true) (he:sets.length=cols.length) (h:∀x∈sets,Sm (150*gn x) (g x)):Sm (3*sets.length+150*(sets.map gn).sum) (bd (fw g cols sets) cols.length):=by
 have s1:Sm _ (bd (fw g cols sets) sets.length):=Sm.seq (b:=fun i=>3+kP (fun x=>150*gn x) sets[i]?) fun i hi=>by
  have hi':i<cols.length:=by omega
  have hn:=List.all_eq_true.1 hc _ (aI hi')
  simp only[b9,decide_eq_true_eq] at hn
  show Sm _ (ea i++(vG cols (fun c=>[nT c,Ef]) i++vG sets g i))
  rw[bU hi,bU hi']
  simp only[ay hi,kP]
  exact ((Sm.ite (Sm.one (by decide)) (Sm.nil.le (by omega):Sm 1 [])).app ((Sm.cons (by show (cols[i]).size<=40;omega) (Sm.one (by decide))).app (h _ (aI hi)))).le (by omega)
 rw[fU sets 3 (fun x=>150*gn x),po] at s1
 rw[<-he]
 exact s1
end
def RgS (s:Stmt):Prop:=s.query.lim<=9223372036854775807/\∀x,x∈aT s->Rg x
theorem qA {s:Stmt} (h:dw s=true):Bn s=true/\match s with
 | .mk kind q table rows cols sets where2=>(kind=1/\eZ fmE q=true)∨(kind≠1/\b9 table=true/\(∀x∈rows.flatMap ERow.l,fmE x=true)/\(∀x∈sets,fmE x=true)/\(∀x∈where2,fmE x=true) /\
  ((kind=2/\rows.length<=5/\rows.all wy=true)∨(kind=3/\cols.length<=12/\sets.length=cols.length/\cols.all b9=true)∨kind=4)):=by
 obtain⟨kind,q,table,rows,cols,sets,where2⟩:=s
 simp only[dw,Bool.and_eq_true] at h
 refine⟨h.1,?_⟩
 have h:=h.2
 simp only[yT] at h
 by_cases k1:kind=1
 ·simp only[if_pos k1,Bool.and_eq_true] at h
  exact .inl ⟨k1,h.2.2.2.2.2⟩
 refine .inr ⟨k1,?_⟩
 simp only[if_neg k1,Bool.and_eq_true,aT,List.all_append] at h
 obtain⟨_,h1,⟨⟨⟨_,h2⟩,h3⟩,h4⟩,h5⟩:=h
 refine⟨h1,List.all_eq_true.1 h2,List.all_eq_true.1 h3,List.all_eq_true.1 h4,?_⟩
 unfold eO at h5
 by_cases k2:kind=2
 ·simp only[if_pos k2,Bool.and_eq_true,decide_eq_true_eq] at h5
  exact .inl ⟨k2,h5.2.2.2.2.1,h5.2.2.2.2.2⟩
 simp only[if_neg k2] at h5
 by_cases k3:kind=3
 ·simp only[if_pos k3,Bool.and_eq_true,decide_eq_true_eq] at h5
  exact .inr (.inl ⟨k3,h5.2.2.1,h5.2.2.2.1,h5.2.2.2.2.2⟩)
 simp only[if_neg k3] at h5
 by_cases k4:kind=4
 ·exact .inr (.inr k4)
 ·simp [if_neg k4] at h5
theorem Du (full:Bool) {s:Stmt} (h:dw s=true) (hr:RgS s):Sm 60000 (fx (nz full) s):=by
 obtain⟨hsm,hp⟩:=qA h
 obtain⟨kind,q,table,rows,cols,sets,where2⟩:=s
 obtain⟨hlim,hrg⟩:=hr
 simp only[Bn,Bool.and_eq_true,decide_eq_true_eq] at hsm
 have hsum:=hsm.2
 simp only[aT,List.map_append,List.sum_append] at hsum
 simp only[aT,List.mem_append] at hrg
 have he:∀x,fmE x=true->Rg x->Sm (150*iw x) (nz full x):=fun x=>E5 full x
 rcases hp with⟨rfl,hq⟩|⟨k1,hn,h2,h3,h4,hk⟩
 ·have hb:∀x∈exprsQ q,fmE x=true:=by
   obtain⟨d,it,fr,wh,od,li⟩:=q
   exact (fv hq).2.2.2.2.2.2.2
  have:=EI (gn:=iw) (g:=nz full) hq hlim fun x hx=>he x (hb x hx) (hrg x (.inl (.inl (.inl hx))))
  exact this.le (by omega)
 ·simp only[b9,decide_eq_true_eq] at hn
  have hnm:(nT table).text.size<=40:=by show table.size<=40;omega
  have sw:=Dq (gn:=iw) (g:=nz full) (l:=where2) fun x hx=>he x (h4 x hx) (hrg x (.inr hx))
  rcases hk with⟨rfl,hl,h12⟩|⟨rfl,hl,hsl,hc⟩|rfl
  ·have sr:=D6 (gn:=iw) (g:=nz full) h12 fun x hx=>he x (h2 x hx) (hrg x (.inl (.inl (.inr hx))))
   exact (Sm.cons (bT 23) (Sm.cons (bT 24) (Sm.cons hnm (Sm.cons (bT 25) sr)))).le (by omega)
  ·have ss:=D7 (gn:=iw) (g:=nz full) hc hsl fun x hx=>he x (h3 x hx) (hrg x (.inl (.inr hx)))
   exact (Sm.cons (bT 26) (Sm.cons hnm (Sm.cons (bT 27) (ss.app sw)))).le (by omega)
  ·exact (Sm.cons (bT 28) (Sm.cons (bT 3) (Sm.cons hnm sw))).le (by omega)
set_option maxHeartbeats 4000000 in
theorem zi (full:Bool) (rows:List ERow) (g:Expr->List Tok) (hsz:gD rows<=1048576) (hg:∀x∈rows.flatMap ERow.l,r5 full x (g x)) (out:List Tok) (hroom:out.length+(bd (eI g rows) rows.length).length<=1000000):Cl Tryz.prog 249 [.c (.ow 76 (out).length ((out).flatMap Tok.row) none),.c (.sl rows.length (rows.flatMap ERow.row) none),vb full] [] fun r _=>r = .c (.ow 76 (out++bd (eI g rows) rows.length).length ((out++bd (eI g rows) rows.length).flatMap Tok.row) none):=by
 have hrn:=kV rows
 refine ae ab false Tryz.func249 rfl (by kernel_rfl) ?_
 simp only[Tryz.f249,tt,seval]
 refine dLoop.gh [.ren 9500 53] ⟨by decide,by decide,?_⟩
 refine dLoop0.intro (fun f L p=>∃(i:Nat) (es:List Tok),f 7=vi i/\f 0 = .c (.s 53 es.length)/\i<=rows.length/\es=out++bd (eI g rows) i/\L=[(53,.arr 76 (es).length ((es).flatMap Tok.row) none)]/\p=none) (fun f _ _=>(rows.length-aU (f 7)).toNat) [(53,.arr 76 (out).length ((out).flatMap Tok.row) none)] none ⟨ac rfl (ak _),al _,?_⟩ ?_
 ·simp only[tt,seval]
  exact⟨0,out,rfl,rfl,by omega,(List.append_nil _).symm,rfl⟩
 ·rintro g1 L p ⟨i,eo,h7,h0,hi,heo,rfl,rfl⟩
  simp only[tt,seval] at h7 h0
  simp only[tt,seval,h7,h0,Int.ofNat_lt]
  refine fun _=>aa (fun hlt=>?_) (fun hge=>?_)
  ·have hlt:i<rows.length:=by omega
   have hst:=bC (eI g rows) i
   have hltr:=dH (eI g rows) hlt
   have helo:eo.length=out.length+(bd (eI g rows) i).length:=by rw[heo,aA]
   obtain⟨it,b5⟩:∃it,it=rows[i]:=⟨_,rfl⟩
   have hx:rows[i]?=some it:=by rw[b5];exact ay hlt
   have hmem:it∈rows:=by rw[b5];exact aI hlt
   have hss:eI g rows i=ea i++tC g it:=by rw[eI,bU hlt,b5]
   rw[hss,tC] at hltr
   have hgi:∀x∈it.l,r5 full x (g x):=fun x hx=>hg x (List.mem_flatMap.2 ⟨_,hmem,hx⟩)
   have hil:=bZ f7 hmem
   rw[fJ,az] at hil
   rw[ee] at hsz
   have hl9:(it.l.length<=9223372036854775807)=True:=eq_true (by omega)
   have i0:((0:Int)<=(i:Int))=True:=eq_true (by omega)
   have iL:((i:Int)<(rows.length:Int))=True:=eq_true (by omega)
   have iT:(i<rows.length)=True:=eq_true hlt
   refine aa (fun hc=>?_) (fun hc=>?_)
   ·have hcl:ea i=[(Tok.mk 5 ⟨#[44]⟩ 0)]:=if_pos (by omega)
    rw[hcl] at hltr
    simp only[ll] at hltr
    refine cZ (aY ⟨#[44]⟩) ?_ ?_<;>simp only[tt,seval,gT,iT,Tok.row]
    refine⟨by kernel_rfl,⟨by simp only[maxLen];(try simp only[ll] at *);omega,by (try simp only[ll] at *);omega⟩,?_⟩
    rw[cX (eo),cE (eo) (Tok.mk 5 ⟨#[44]⟩ 0)]
    refine cZ (aY ⟨#[40]⟩) ?_ ?_<;>simp only[tt,seval,gT,Tok.row]
    refine⟨by kernel_rfl,⟨by simp only[maxLen];(try simp only[ll] at *);omega,by (try simp only[ll] at *);omega⟩,?_⟩
    rw[cX (eo++[(Tok.mk 5 ⟨#[44]⟩ 0)]),cE (eo++[(Tok.mk 5 ⟨#[44]⟩ 0)]) (Tok.mk 5 ⟨#[40]⟩ 0)]
    obtain⟨L1,hL1⟩:∃L1,L1=eo++[(Tok.mk 5 ⟨#[44]⟩ 0)]++[(Tok.mk 5 ⟨#[40]⟩ 0)]:=⟨_,rfl⟩
    have hl1:L1.length=eo.length+2:=by rw[hL1];simp only[ll]
    rw[<-hL1]
    refine dLoop.gh [.ren 24 10049] ⟨by decide,by decide,?_⟩
    refine dLoop0.intro (fun f L p=>∃(j:Nat) (es:List Tok),f 8=vi j/\f 0 = .c (.s 10049 es.length)/\j<=it.l.length/\es=L1++bd (pd g it.l) j/\L=[(10049,.arr 76 (es).length ((es).flatMap Tok.row) none)]/\p=none) (fun f _ _=>(it.l.length-aU (f 8)).toNat) [(10049,.arr 76 (L1).length ((L1).flatMap Tok.row) none)] none ⟨ac rfl (ak _),al _,?_⟩ ?_
    ·simp only[tt,seval]
     exact⟨0,L1,rfl,rfl,by omega,(List.append_nil _).symm,rfl⟩
    ·rintro g2 L p ⟨j,es,h8,h0,hj,hes1,rfl,rfl⟩
     simp only[tt,seval] at h8 h0
     simp only[tt,seval,h7,h8,h0,bi hx ERow.row_len,i0,iL,lM,hl9,Int.ofNat_lt]
     refine aa (fun hlt=>?_) (fun hge=>?_)
     ·have hlt:j<it.l.length:=by omega
      have hst2:=bC (pd g it.l) j
      have hlt2:=dH (pd g it.l) hlt
      have hel1:es.length=L1.length+(bd (pd g it.l) j).length:=by rw[hes1,aA]
      obtain⟨e,he⟩:∃e,e=it.l[j]:=⟨_,rfl⟩
      have hy:it.l[j]?=some e:=by rw[he];exact ay hlt
      have hel2:pd g it.l j=ea j++g e:=by rw[pd,bU hlt,he]
      rw[hel2] at hlt2
      have hge:∀out:List Tok,out.length+(g e).length<=1000000->Cl Tryz.prog 250 [.c (.ow 76 (out).length ((out).flatMap Tok.row) none),.ag (av e.row),vb full] [] fun r _=>r = .c (.ow 76 (out++g e).length ((out++g e).flatMap Tok.row) none):=hgi e (by rw[he];exact aI hlt)
      have j0:((0:Int)<=(j:Int))=True:=eq_true (by omega)
      have jL:((j:Int)<(it.l.length:Int))=True:=eq_true (by omega)
      have jT:(j<it.l.length)=True:=eq_true hlt
      refine aa (fun hc=>?_) (fun hc=>?_)
      ·have hcl:ea j=[(Tok.mk 5 ⟨#[44]⟩ 0)]:=if_pos (by omega)
       rw[hcl] at hlt2 hel2
       simp only[ll] at hlt2
       refine cZ (aY ⟨#[44]⟩) ?_ ?_<;>simp only[tt,seval,gT,Tok.row,h7,h8]
       refine⟨by kernel_rfl,⟨by simp only[maxLen];(try simp only[ll] at *);omega,by (try simp only[ll] at *);omega⟩,?_⟩
       rw[cX (es),cE (es) (Tok.mk 5 ⟨#[44]⟩ 0)]
       simp only[tt,seval,bi hx ERow.row_len,i0,iL,lM,bi hy aC,j0,jL,jT,Expr.tk,aC]
       refine cZ (hge (es++[(Tok.mk 5 ⟨#[44]⟩ 0)]) (by (try simp only[ll] at *);omega)) ?_ ?_<;>simp only[tt,seval,h8]
       try rw[ax (n:=(j:Int)+1) (by omega) (by omega)]
       exact⟨[(10049,.arr 76 (es++[(Tok.mk 5 ⟨#[44]⟩ 0)]++g e).length ((es++[(Tok.mk 5 ⟨#[44]⟩ 0)]++g e).flatMap Tok.row) none)],none,ac rfl (ak _),al _,⟨j+1,es++[(Tok.mk 5 ⟨#[44]⟩ 0)]++g e,rfl,rfl,by omega,by rw[hst2,hes1,hel2];simp [aJ],rfl,rfl⟩,by simp only[aU];omega⟩
      ·have hcl:ea j=[]:=if_neg (by omega)
       rw[hcl] at hlt2 hel2
       simp only[ll] at hlt2
       simp only[tt,seval,bi hy aC,j0,jT,Expr.tk,aC]
       refine cZ (hge (es) (by (try simp only[ll] at *);omega)) ?_ ?_<;>simp only[tt,seval,h8]
       try rw[ax (n:=(j:Int)+1) (by omega) (by omega)]
       exact⟨[(10049,.arr 76 (es++g e).length ((es++g e).flatMap Tok.row) none)],none,ac rfl (ak _),al _,⟨j+1,es++g e,rfl,rfl,by omega,by rw[hst2,hes1,hel2];simp [aJ],rfl,rfl⟩,by simp only[aU];omega⟩
     ·have hje:j=it.l.length:=by omega
      subst hje
      have hel1:es.length=L1.length+(bd (pd g it.l) it.l.length).length:=by rw[hes1,aA]
      refine cZ (aY ⟨#[41]⟩) ?_ ?_<;>simp only[tt,seval,gT,Tok.row,h7]
      refine⟨by kernel_rfl,⟨by simp only[maxLen];(try simp only[ll] at *);omega,by (try simp only[ll] at *);omega⟩,?_⟩
      rw[cX (es),cE (es) (Tok.mk 5 ⟨#[41]⟩ 0)]
      try rw[dk i (by omega)]
      exact⟨[(53,.arr 76 (es++[(Tok.mk 5 ⟨#[41]⟩ 0)]).length ((es++[(Tok.mk 5 ⟨#[41]⟩ 0)]).flatMap Tok.row) none)],none,ac rfl (ak _),al _,⟨i+1,es++[(Tok.mk 5 ⟨#[41]⟩ 0)],rfl,rfl,by omega,by rw[hst,hss,hcl,heo,tC] at *;rw[hes1,hL1];simp [gT,lG,lH,aJ],rfl,rfl⟩,by simp only[aU];omega⟩
   ·have hcl:ea i=[]:=if_neg (by omega)
    rw[hcl] at hltr
    simp only[ll] at hltr
    refine cZ (aY ⟨#[40]⟩) ?_ ?_<;>simp only[tt,seval,gT,iT,Tok.row]
    refine⟨by kernel_rfl,⟨by simp only[maxLen];(try simp only[ll] at *);omega,by (try simp only[ll] at *);omega⟩,?_⟩
    rw[cX (eo),cE (eo) (Tok.mk 5 ⟨#[40]⟩ 0)]
    obtain⟨L1,hL1⟩:∃L1,L1=eo++[(Tok.mk 5 ⟨#[40]⟩ 0)]:=⟨_,rfl⟩
    have hl1:L1.length=eo.length+1:=by rw[hL1];simp only[ll]
    rw[<-hL1]
    refine dLoop.gh [.ren 24 10049] ⟨by decide,by decide,?_⟩
    refine dLoop0.intro (fun f L p=>∃(j:Nat) (es:List Tok),f 8=vi j/\f 0 = .c (.s 10049 es.length)/\j<=it.l.length/\es=L1++bd (pd g it.l) j/\L=[(10049,.arr 76 (es).length ((es).flatMap Tok.row) none)]/\p=none) (fun f _ _=>(it.l.length-aU (f 8)).toNat) [(10049,.arr 76 (L1).length ((L1).flatMap Tok.row) none)] none ⟨ac rfl (ak _),al _,?_⟩ ?_
    ·simp only[tt,seval]
     exact⟨0,L1,rfl,rfl,by omega,(List.append_nil _).symm,rfl⟩
    ·rintro g2 L p ⟨j,es,h8,h0,hj,hes1,rfl,rfl⟩
     simp only[tt,seval] at h8 h0
     simp only[tt,seval,h7,h8,h0,bi hx ERow.row_len,i0,iL,lM,hl9,Int.ofNat_lt]
     refine aa (fun hlt=>?_) (fun hge=>?_)
     ·have hlt:j<it.l.length:=by omega
      have hst2:=bC (pd g it.l) j
      have hlt2:=dH (pd g it.l) hlt
      have hel1:es.length=L1.length+(bd (pd g it.l) j).length:=by rw[hes1,aA]
      obtain⟨e,he⟩:∃e,e=it.l[j]:=⟨_,rfl⟩
      have hy:it.l[j]?=some e:=by rw[he];exact ay hlt
      have hel2:pd g it.l j=ea j++g e:=by rw[pd,bU hlt,he]
      rw[hel2] at hlt2
      have hge:∀out:List Tok,out.length+(g e).length<=1000000->Cl Tryz.prog 250 [.c (.ow 76 (out).length ((out).flatMap Tok.row) none),.ag (av e.row),vb full] [] fun r _=>r = .c (.ow 76 (out++g e).length ((out++g e).flatMap Tok.row) none):=hgi e (by rw[he];exact aI hlt)
      have j0:((0:Int)<=(j:Int))=True:=eq_true (by omega)
      have jL:((j:Int)<(it.l.length:Int))=True:=eq_true (by omega)
      have jT:(j<it.l.length)=True:=eq_true hlt
      refine aa (fun hc=>?_) (fun hc=>?_)
      ·have hcl:ea j=[(Tok.mk 5 ⟨#[44]⟩ 0)]:=if_pos (by omega)
       rw[hcl] at hlt2 hel2
       simp only[ll] at hlt2
       refine cZ (aY ⟨#[44]⟩) ?_ ?_<;>simp only[tt,seval,gT,Tok.row,h7,h8]
       refine⟨by kernel_rfl,⟨by simp only[maxLen];(try simp only[ll] at *);omega,by (try simp only[ll] at *);omega⟩,?_⟩
       rw[cX (es),cE (es) (Tok.mk 5 ⟨#[44]⟩ 0)]
       simp only[tt,seval,bi hx ERow.row_len,i0,iL,lM,bi hy aC,j0,jL,jT,Expr.tk,aC]
       refine cZ (hge (es++[(Tok.mk 5 ⟨#[44]⟩ 0)]) (by (try simp only[ll] at *);omega)) ?_ ?_<;>simp only[tt,seval,h8]
       try rw[ax (n:=(j:Int)+1) (by omega) (by omega)]
       exact⟨[(10049,.arr 76 (es++[(Tok.mk 5 ⟨#[44]⟩ 0)]++g e).length ((es++[(Tok.mk 5 ⟨#[44]⟩ 0)]++g e).flatMap Tok.row) none)],none,ac rfl (ak _),al _,⟨j+1,es++[(Tok.mk 5 ⟨#[44]⟩ 0)]++g e,rfl,rfl,by omega,by rw[hst2,hes1,hel2];simp [aJ],rfl,rfl⟩,by simp only[aU];omega⟩
      ·have hcl:ea j=[]:=if_neg (by omega)
       rw[hcl] at hlt2 hel2
       simp only[ll] at hlt2
       simp only[tt,seval,bi hy aC,j0,jT,Expr.tk,aC]
       refine cZ (hge (es) (by (try simp only[ll] at *);omega)) ?_ ?_<;>simp only[tt,seval,h8]
       try rw[ax (n:=(j:Int)+1) (by omega) (by omega)]
       exact⟨[(10049,.arr 76 (es++g e).length ((es++g e).flatMap Tok.row) none)],none,ac rfl (ak _),al _,⟨j+1,es++g e,rfl,rfl,by omega,by rw[hst2,hes1,hel2];simp [aJ],rfl,rfl⟩,by simp only[aU];omega⟩
     ·have hje:j=it.l.length:=by omega
      subst hje
      have hel1:es.length=L1.length+(bd (pd g it.l) it.l.length).length:=by rw[hes1,aA]
      refine cZ (aY ⟨#[41]⟩) ?_ ?_<;>simp only[tt,seval,gT,Tok.row,h7]
      refine⟨by kernel_rfl,⟨by simp only[maxLen];(try simp only[ll] at *);omega,by (try simp only[ll] at *);omega⟩,?_⟩
      rw[cX (es),cE (es) (Tok.mk 5 ⟨#[41]⟩ 0)]
      try rw[dk i (by omega)]
      exact⟨[(53,.arr 76 (es++[(Tok.mk 5 ⟨#[41]⟩ 0)]).length ((es++[(Tok.mk 5 ⟨#[41]⟩ 0)]).flatMap Tok.row) none)],none,ac rfl (ak _),al _,⟨i+1,es++[(Tok.mk 5 ⟨#[41]⟩ 0)],rfl,rfl,by omega,by rw[hst,hss,hcl,heo,tC] at *;rw[hes1,hL1];simp [gT,lG,lH,aJ],rfl,rfl⟩,by simp only[aU];omega⟩
  ·have hie:i=rows.length:=by omega
   subst hie
   subst heo
   refine⟨_,[],my (l:=out++bd (eI g rows) rows.length) (by rfl),am ?_⟩
   simp only[tt,seval]
set_option maxHeartbeats 8000000 in
theorem zj (full:Bool) (s:Stmt) (hok:dw s=true) (hr:RgS s) (hsz:bR s<=1048576):Cl Tryz.prog 216 [.ag (av s.row),vb full] [] fun r _=>r = .c (.ow 76 (fx (nz full) s).length ((fx (nz full) s).flatMap Tok.row) none):=by
 have hlen:=(Du full hok hr).1
 have hex:=fun x hx=>ep (s:=s) (x:=x) hx
 obtain⟨_,hp⟩:=qA hok
 obtain⟨kind,q,table,rows,cols,sets,where2⟩:=s
 obtain⟨hlim,hrg⟩:=hr
 have hss:=hsz
 rw[ey] at hss
 simp only[aT,List.mem_append] at hrg hex
 have hT:∀x,fmE x=true->Rg x->aw x<=1048576->r5 full x (nz full x):=fun x=>zf full x
 have hQ:eZ fmE q=true->Fz full q (jX (nz full) q):=fun hq=>by
  have hb:∀x∈exprsQ q,fmE x=true:=by
   obtain⟨d,it,fr,wh,od,li⟩:=q
   exact (fv hq).2.2.2.2.2.2.2
  exact lZ full fmE (nz full) q hq hlim (by omega) fun x hx=>hT x (hb x hx) (hrg x (.inl (.inl (.inl hx)))) (Nat.le_trans (hex x (.inl (.inl (.inl hx)))) hsz)
 have hT2:∀x,fmE x=true->(((x∈exprsQ q∨x∈rows.flatMap ERow.l)∨x∈sets)∨x∈where2)->r5 full x (nz full x):=fun x hf hm=>hT x hf (hrg x hm) (Nat.le_trans (hex x hm) hsz)
 generalize nz full=g at *
 have hsr:gD rows<=1048576:=by omega
 have hwl:where2.length<=1048576:=by rw[az,az] at hss;omega
 have hcl9:cols.length<=1048576:=by unfold fX at hss;omega
 clear hT hex hss
 rcases hp with⟨rfl,hq⟩|⟨k1,hn,h2,h3,h4,hk⟩
 ·have hq:=hQ hq
  obtain⟨distinct,items,from_,where_,order,limit⟩:=q
  have hq:∀out:List Tok,out.length+(jX g (Query.mk distinct items from_ where_ order limit)).length<=1000000->Cl Tryz.prog 246 [.c (.ow 76 (out).length ((out).flatMap Tok.row) none),.ag (av (Query.mk distinct items from_ where_ order limit).row),vb full] [] fun r _=>r = .c (.ow 76 (out++jX g (Query.mk distinct items from_ where_ order limit)).length ((out++jX g (Query.mk distinct items from_ where_ order limit)).flatMap Tok.row) none):=hq
  rw[ar] at hq
  rw[Stmt.row_mk,ar]
  simp only[lc]
  have e:fx g (Stmt.mk 1 (Query.mk distinct items from_ where_ order limit) table rows cols sets where2)=jX g (Query.mk distinct items from_ where_ order limit):=rfl
  rw[e] at hlen ⊢
  clear e
  refine ae ab false Tryz.func216 rfl (by kernel_rfl) ?_
  simp only[Tryz.f216,tt,seval]
  refine cZ (hq [] (by simp only[List.length_nil];omega)) ?_ ?_<;>simp only[tt,seval]
  refine⟨_,[],my (l:=[]++jX g (Query.mk distinct items from_ where_ order limit)) (by simp),am ?_⟩
  simp only[tt,seval]
 have hgR:∀x∈rows.flatMap ERow.l,r5 full x (g x):=fun x hx=>hT2 x (h2 x hx) (.inl (.inl (.inr hx)))
 have hgT:∀x∈sets,r5 full x (g x):=fun x hx=>hT2 x (h3 x hx) (.inl (.inr hx))
 have hgW:∀x∈where2,r5 full x (g x):=fun x hx=>hT2 x (h4 x hx) (.inr hx)
 obtain⟨distinct,items,from_,where_,order,limit⟩:=q
 rw[Stmt.row_mk,ar]
 simp only[lc]
 rcases hk with⟨rfl,hl,h12⟩|⟨rfl,hl,hsl,hc⟩|rfl
 ·skip
  have e:fx g (Stmt.mk 2 (Query.mk distinct items from_ where_ order limit) table rows cols sets where2)=kT 23::kT 24::nT table::kT 25::bd (eI g rows) rows.length:=rfl
  rw[e] at hlen ⊢
  clear e
  refine ae ab false Tryz.func216 rfl (by kernel_rfl) ?_
  simp only[Tryz.f216,tt,seval]
  simp only[ll] at hlen
  apply du 5 2 1
  case h1=>
   refine dDrawn.intro [] (iK [0,6,8,3,5,11,13,15,17,18]) (by kernel_rfl) ?_
   simp only[tt,seval]
   all_goals repeat' first|refine cJ ?_ ?_|refine b7 ?_ ?_
   all_goals
    refine cZ (bb 23 (by omega) (by omega)) ?_ ?_<;>simp only[tt,seval,kT,Tok.row]
   all_goals repeat' first|refine cJ ?_ ?_|refine b7 ?_ ?_
   all_goals
    refine cZ (bb 24 (by omega) (by omega)) ?_ ?_<;>simp only[tt,seval,kT,Tok.row]
   all_goals repeat' first|refine cJ ?_ ?_|refine b7 ?_ ?_
   all_goals
    refine cZ (cy table) ?_ ?_<;>simp only[tt,seval,nT,Tok.row]
   all_goals repeat' first|refine cJ ?_ ?_|refine b7 ?_ ?_
   all_goals
    refine cZ (bb 25 (by omega) (by omega)) ?_ ?_<;>simp only[tt,seval,kT,Tok.row]
   all_goals repeat' first|refine jU ?_ ?_|refine dR ?_ ?_|refine dS ?_ ?_
   all_goals
    refine⟨by kernel_rfl,⟨by simp only[maxLen];omega,by omega⟩,?_⟩
   all_goals exact⟨rfl,rfl,rfl,rfl,rfl⟩
  case h2=>
   intro f' hj0 hj1 hj2
   simp only[tt,seval,hj0,hj1,hj2]
   refine cZ (zi full rows g hsr hgR [(Tok.mk 1 (kw 23) 0),(Tok.mk 1 (kw 24) 0),(Tok.mk 2 table 0),(Tok.mk 1 (kw 25) 0)] (by simp only[ll];omega)) ?_ ?_<;>simp only[tt,seval,Tok.row]
   refine⟨_,[],my (l:=[(Tok.mk 1 (kw 23) 0),(Tok.mk 1 (kw 24) 0),(Tok.mk 2 table 0),(Tok.mk 1 (kw 25) 0)]++bd (eI g rows) rows.length) (by rfl),am ?_⟩
   simp only[tt,seval,Tok.row]
 ·skip
  have e:fx g (Stmt.mk 3 (Query.mk distinct items from_ where_ order limit) table rows cols sets where2)=kT 26::nT table::kT 27::(bd (fw g cols sets) cols.length++p5 g where2):=rfl
  rw[e] at hlen ⊢
  clear e
  refine ae ab false Tryz.func216 rfl (by kernel_rfl) ?_
  simp only[Tryz.f216,tt,seval]
  simp only[ll] at hlen
  apply du 5 2 1
  case h1=>
   refine dDrawn.intro [] (iK [0,4,6,3,9,11,13,15,16]) (by kernel_rfl) ?_
   simp only[tt,seval]
   all_goals repeat' first|refine cJ ?_ ?_|refine b7 ?_ ?_
   all_goals
    refine cZ (bb 26 (by omega) (by omega)) ?_ ?_<;>simp only[tt,seval,kT,Tok.row]
   all_goals repeat' first|refine cJ ?_ ?_|refine b7 ?_ ?_
   all_goals
    refine cZ (cy table) ?_ ?_<;>simp only[tt,seval,nT,Tok.row]
   all_goals repeat' first|refine cJ ?_ ?_|refine b7 ?_ ?_
   all_goals
    refine cZ (bb 27 (by omega) (by omega)) ?_ ?_<;>simp only[tt,seval,kT,Tok.row]
   all_goals repeat' first|refine jU ?_ ?_|refine dR ?_ ?_|refine dS ?_ ?_
   all_goals
    refine⟨by kernel_rfl,⟨by simp only[maxLen];omega,by omega⟩,?_⟩
   all_goals exact⟨rfl,rfl,rfl,rfl,rfl⟩
  case h2=>
   intro f' hj0 hj1 hj2
   simp only[tt,seval]
   obtain⟨L1,hL1⟩:∃L1,L1=([(Tok.mk 1 (kw 26) 0),(Tok.mk 2 table 0),(Tok.mk 1 (kw 27) 0)]:List Tok):=⟨_,rfl⟩
   have hl1:L1.length=3:=by rw[hL1];rfl
   have hds:[(Tok.mk 1 (kw 26) 0),(Tok.mk 2 table 0),(Tok.mk 1 (kw 27) 0)].flatMap Tok.row=L1.flatMap Tok.row:=by rw[hL1]
   simp only[List.flatMap_cons,List.flatMap_nil,lc,Tok.row] at hds
   refine dLoop.gh [.ren 42 10072] ⟨by decide,by decide,?_⟩
   refine dLoop0.intro (fun f L p=>∃(i:Nat) (es:List Tok),f 6=vi i/\f 5 = .c (.s 10072 es.length)/\i<=cols.length/\es=L1++bd (fw g cols sets) i/\L=[(10072,.arr 76 (es).length ((es).flatMap Tok.row) none),(2,.str [.v (.int .i64 3),.v (.bool distinct),.sl items.length (items.flatMap Item.row) none,.sl from_.length (from_.flatMap Source.row) none,.sl where_.length (where_.flatMap Expr.row) none,.sl order.length (order.flatMap SortKey.row) none,.v (.int .i64 limit),.v (.string table),.sl rows.length (rows.flatMap ERow.row) none,.sl cols.length (cols.flatMap srow) none,.sl sets.length (sets.flatMap Expr.row) none,.sl where2.length (where2.flatMap Expr.row) none])]/\p=none) (fun f _ _=>(cols.length-aU (f 6)).toNat) [(10072,.arr 76 (L1).length ((L1).flatMap Tok.row) none),(2,.str [.v (.int .i64 3),.v (.bool distinct),.sl items.length (items.flatMap Item.row) none,.sl from_.length (from_.flatMap Source.row) none,.sl where_.length (where_.flatMap Expr.row) none,.sl order.length (order.flatMap SortKey.row) none,.v (.int .i64 limit),.v (.string table),.sl rows.length (rows.flatMap ERow.row) none,.sl cols.length (cols.flatMap srow) none,.sl sets.length (sets.flatMap Expr.row) none,.sl where2.length (where2.flatMap Expr.row) none])] none ⟨?_,al _,?_⟩ ?_
   ·rw[<-hds,hl1]
    exact ac rfl (ac rfl (ak _))
   ·simp only[tt,seval,hj0]
    exact⟨0,L1,rfl,by rw[hl1],by omega,(List.append_nil _).symm,rfl⟩
   rintro g' L p ⟨i,es,h6,h5,hi,hes0,rfl,rfl⟩
   simp only[tt,seval] at h6 h5
   simp only[tt,seval,h6,h5,hj1,hj2,Int.ofNat_lt]
   refine fun _=>aa (fun hlt=>?_) (fun hge=>?_)
   ·have hlt:i<cols.length:=by omega
    have hls:i<sets.length:=by omega
    have hst:=bC (fw g cols sets) i
    have hlt2:=dH (fw g cols sets) hlt
    have hel:es.length=L1.length+(bd (fw g cols sets) i).length:=by rw[hes0,aA]
    obtain⟨c,hc⟩:∃c,c=cols[i]:=⟨_,rfl⟩
    have hxc:cols[i]?=some c:=by rw[hc];exact ay hlt
    obtain⟨e,he⟩:∃e,e=sets[i]:=⟨_,rfl⟩
    have hxs:sets[i]?=some e:=by rw[he];exact ay hls
    have hel2:fw g cols sets i=ea i++([nT c,Ef]++g e):=by rw[fw,bU hlt,bU hls,hc,he]
    rw[hel2] at hlt2
    have hge:∀out:List Tok,out.length+(g e).length<=1000000->Cl Tryz.prog 250 [.c (.ow 76 (out).length ((out).flatMap Tok.row) none),.ag (av e.row),vb full] [] fun r _=>r = .c (.ow 76 (out++g e).length ((out++g e).flatMap Tok.row) none):=hgT e (by rw[he];exact aI hls)
    have i0:((0:Int)<=(i:Int))=True:=eq_true (by omega)
    have iC:((i:Int)<(cols.length:Int))=True:=eq_true (by omega)
    have iT:(i<cols.length)=True:=eq_true hlt
    have iS:(i<sets.length)=True:=eq_true hls
    have iS2:((i:Int)<(sets.length:Int))=True:=eq_true (by omega)
    refine aa (fun hc=>?_) (fun hc=>?_)
    ·have hcl:ea i=[(Tok.mk 5 ⟨#[44]⟩ 0)]:=if_pos (by omega)
     rw[hcl] at hlt2 hel2
     simp only[ll] at hlt2
     refine cZ (aY ⟨#[44]⟩) ?_ ?_<;>simp only[tt,seval,kT,gT,nT,iT,Tok.row]
     refine⟨by kernel_rfl,⟨by simp only[maxLen];(try simp only[ll] at *);omega,by (try simp only[ll] at *);omega⟩,?_⟩
     rw[cX (es),cE (es) (Tok.mk 5 ⟨#[44]⟩ 0)]
     apply eC 5 6 2 1
     case h1=>
      refine dDrawn.intro [72] (.take 0 (.take 1 (.take 2 (.take 3 (.take 4 (.take 5 (.take 10 (.take 12 (.take 15 (.br 6 (.br 7 (.br 8 (.br 9 (.take 11 (.take 13 (.take 14 (.br 16 (.take 17 .done) .nobr)))) (.br 11 (.take 13 (.br 9 (.take 14 (.br 16 (.take 17 .done) .nobr)) (.br 14 (.br 9 (.br 16 (.take 17 .done) .nobr) .nobr) .nobr))) .nobr)) (.br 11 (.take 13 (.br 8 (.br 9 (.take 14 (.br 16 (.take 17 .done) .nobr)) (.br 14 (.br 9 (.br 16 (.take 17 .done) .nobr) .nobr) .nobr)) (.br 14 (.br 8 (.br 9 (.br 16 (.take 17 .done) .nobr) .nobr) .nobr) .nobr))) .nobr)) (.br 11 (.take 13 (.br 7 (.br 8 (.br 9 (.take 14 (.br 16 (.take 17 .done) .nobr)) (.br 14 (.br 9 (.br 16 (.take 17 .done) .nobr) .nobr) .nobr)) (.br 14 (.br 8 (.br 9 (.br 16 (.take 17 .done) .nobr) .nobr) .nobr) .nobr)) (.br 14 (.br 7 (.br 8 (.br 9 (.br 16 (.take 17 .done) .nobr) .nobr) .nobr) .nobr) .nobr))) .nobr)) (.br 11 (.take 13 (.br 6 (.br 7 (.br 8 (.br 9 (.take 14 (.br 16 (.take 17 .done) .nobr)) (.br 14 (.br 9 (.br 16 (.take 17 .done) .nobr) .nobr) .nobr)) (.br 14 (.br 8 (.br 9 (.br 16 (.take 17 .done) .nobr) .nobr) .nobr) .nobr)) (.br 14 (.br 7 (.br 8 (.br 9 (.br 16 (.take 17 .done) .nobr) .nobr) .nobr) .nobr) .nobr)) (.br 14 (.br 6 (.br 7 (.br 8 (.br 9 (.br 16 (.take 17 .done) .nobr) .nobr) .nobr) .nobr) .nobr) .nobr))) .nobr))))))))))) (by kernel_rfl) ?_
      simp only[tt,seval]
      all_goals try simp only[tt,seval,h6,hj1,hj2,bi hxc dM,bi hxs aC,i0,iC,iS2,srow,Expr.tk,aC]
      all_goals repeat' first|refine cJ ?_ ?_|refine b7 ?_ ?_
      all_goals
       refine cZ (cy c) ?_ ?_<;>simp only[tt,seval,nT,Tok.row,bi hxs aC,i0,iS2,Expr.tk,aC]
      all_goals repeat' first|refine cJ ?_ ?_|refine b7 ?_ ?_
      all_goals
       refine cZ (aY ⟨#[61]⟩) ?_ ?_<;>simp only[tt,seval,gT,Tok.row,bi hxs aC,i0,iS2,Expr.tk,aC]
      all_goals repeat' first|refine jU ?_ ?_|refine dR ?_ ?_|refine dS ?_ ?_
      all_goals
       refine⟨by kernel_rfl,⟨by simp only[maxLen];(try simp only[ll] at *);omega,by (try simp only[ll] at *);omega⟩,?_⟩
       rw[r4 (es++[(Tok.mk 5 ⟨#[44]⟩ 0)]),pb (es++[(Tok.mk 5 ⟨#[44]⟩ 0)]) (Tok.mk 2 c 0) (Tok.mk 5 ⟨#[61]⟩ 0)]
      all_goals repeat' first|refine cJ ?_ ?_|refine b7 ?_ ?_
      all_goals
       refine cZ (hge (es++[(Tok.mk 5 ⟨#[44]⟩ 0)]++[(Tok.mk 2 c 0),(Tok.mk 5 ⟨#[61]⟩ 0)]) (by (try simp only[ll] at *);omega)) ?_ ?_
       ·simp only[tt,seval]
        decide
       simp only[tt,seval,h6,hj1,hj2]
      all_goals exact⟨rfl,rfl,rfl,rfl,rfl,rfl⟩
     case h2=>
      intro f' hk0 hk1 hk2 hk3
      simp only[tt,seval,hk0,hk1]
      try rw[dk i (by omega)]
      exact⟨[(10072,.arr 76 (es++[(Tok.mk 5 ⟨#[44]⟩ 0)]++[(Tok.mk 2 c 0),(Tok.mk 5 ⟨#[61]⟩ 0)]++g e).length ((es++[(Tok.mk 5 ⟨#[44]⟩ 0)]++[(Tok.mk 2 c 0),(Tok.mk 5 ⟨#[61]⟩ 0)]++g e).flatMap Tok.row) none),(2,.str [.v (.int .i64 3),.v (.bool distinct),.sl items.length (items.flatMap Item.row) none,.sl from_.length (from_.flatMap Source.row) none,.sl where_.length (where_.flatMap Expr.row) none,.sl order.length (order.flatMap SortKey.row) none,.v (.int .i64 limit),.v (.string table),.sl rows.length (rows.flatMap ERow.row) none,.sl cols.length (cols.flatMap srow) none,.sl sets.length (sets.flatMap Expr.row) none,.sl where2.length (where2.flatMap Expr.row) none])],none,ac rfl (ac rfl (ak _)),al _,⟨i+1,es++[(Tok.mk 5 ⟨#[44]⟩ 0)]++[(Tok.mk 2 c 0),(Tok.mk 5 ⟨#[61]⟩ 0)]++g e,rfl,rfl,by omega,by rw[hst,hes0,hel2];simp [Ef,nT,gT,aJ],rfl,rfl⟩,by simp only[aU];omega⟩
    ·have hcl:ea i=[]:=if_neg (by omega)
     rw[hcl] at hlt2 hel2
     simp only[ll] at hlt2
     apply eC 5 6 2 1
     case h1=>
      refine dDrawn.intro [72] (.take 0 (.take 1 (.take 2 (.take 3 (.take 4 (.take 5 (.take 10 (.take 12 (.take 15 (.br 6 (.br 7 (.br 8 (.br 9 (.take 11 (.take 13 (.take 14 (.br 16 (.take 17 .done) .nobr)))) (.br 11 (.take 13 (.br 9 (.take 14 (.br 16 (.take 17 .done) .nobr)) (.br 14 (.br 9 (.br 16 (.take 17 .done) .nobr) .nobr) .nobr))) .nobr)) (.br 11 (.take 13 (.br 8 (.br 9 (.take 14 (.br 16 (.take 17 .done) .nobr)) (.br 14 (.br 9 (.br 16 (.take 17 .done) .nobr) .nobr) .nobr)) (.br 14 (.br 8 (.br 9 (.br 16 (.take 17 .done) .nobr) .nobr) .nobr) .nobr))) .nobr)) (.br 11 (.take 13 (.br 7 (.br 8 (.br 9 (.take 14 (.br 16 (.take 17 .done) .nobr)) (.br 14 (.br 9 (.br 16 (.take 17 .done) .nobr) .nobr) .nobr)) (.br 14 (.br 8 (.br 9 (.br 16 (.take 17 .done) .nobr) .nobr) .nobr) .nobr)) (.br 14 (.br 7 (.br 8 (.br 9 (.br 16 (.take 17 .done) .nobr) .nobr) .nobr) .nobr) .nobr))) .nobr)) (.br 11 (.take 13 (.br 6 (.br 7 (.br 8 (.br 9 (.take 14 (.br 16 (.take 17 .done) .nobr)) (.br 14 (.br 9 (.br 16 (.take 17 .done) .nobr) .nobr) .nobr)) (.br 14 (.br 8 (.br 9 (.br 16 (.take 17 .done) .nobr) .nobr) .nobr) .nobr)) (.br 14 (.br 7 (.br 8 (.br 9 (.br 16 (.take 17 .done) .nobr) .nobr) .nobr) .nobr) .nobr)) (.br 14 (.br 6 (.br 7 (.br 8 (.br 9 (.br 16 (.take 17 .done) .nobr) .nobr) .nobr) .nobr) .nobr) .nobr))) .nobr))))))))))) (by kernel_rfl) ?_
      simp only[tt,seval]
      all_goals try simp only[tt,seval,h6,h5,hj1,hj2,bi hxc dM,bi hxs aC,i0,iC,iT,iS2,srow,Expr.tk,aC]
      all_goals repeat' first|refine cJ ?_ ?_|refine b7 ?_ ?_
      all_goals
       refine cZ (cy c) ?_ ?_<;>simp only[tt,seval,nT,Tok.row,bi hxs aC,i0,iS2,Expr.tk,aC]
      all_goals repeat' first|refine cJ ?_ ?_|refine b7 ?_ ?_
      all_goals
       refine cZ (aY ⟨#[61]⟩) ?_ ?_<;>simp only[tt,seval,gT,Tok.row,bi hxs aC,i0,iS2,Expr.tk,aC]
      all_goals repeat' first|refine jU ?_ ?_|refine dR ?_ ?_|refine dS ?_ ?_
      all_goals
       refine⟨by kernel_rfl,⟨by simp only[maxLen];(try simp only[ll] at *);omega,by (try simp only[ll] at *);omega⟩,?_⟩
       rw[r4 (es),pb (es) (Tok.mk 2 c 0) (Tok.mk 5 ⟨#[61]⟩ 0)]
      all_goals repeat' first|refine cJ ?_ ?_|refine b7 ?_ ?_
      all_goals
       refine cZ (hge (es++[(Tok.mk 2 c 0),(Tok.mk 5 ⟨#[61]⟩ 0)]) (by (try simp only[ll] at *);omega)) ?_ ?_
       ·simp only[tt,seval]
        decide
       simp only[tt,seval,h6,hj1,hj2]
      all_goals exact⟨rfl,rfl,rfl,rfl,rfl,rfl⟩
     case h2=>
      intro f' hk0 hk1 hk2 hk3
      simp only[tt,seval,hk0,hk1]
      try rw[dk i (by omega)]
      exact⟨[(10072,.arr 76 (es++[(Tok.mk 2 c 0),(Tok.mk 5 ⟨#[61]⟩ 0)]++g e).length ((es++[(Tok.mk 2 c 0),(Tok.mk 5 ⟨#[61]⟩ 0)]++g e).flatMap Tok.row) none),(2,.str [.v (.int .i64 3),.v (.bool distinct),.sl items.length (items.flatMap Item.row) none,.sl from_.length (from_.flatMap Source.row) none,.sl where_.length (where_.flatMap Expr.row) none,.sl order.length (order.flatMap SortKey.row) none,.v (.int .i64 limit),.v (.string table),.sl rows.length (rows.flatMap ERow.row) none,.sl cols.length (cols.flatMap srow) none,.sl sets.length (sets.flatMap Expr.row) none,.sl where2.length (where2.flatMap Expr.row) none])],none,ac rfl (ac rfl (ak _)),al _,⟨i+1,es++[(Tok.mk 2 c 0),(Tok.mk 5 ⟨#[61]⟩ 0)]++g e,rfl,rfl,by omega,by rw[hst,hes0,hel2];simp [Ef,nT,gT,aJ],rfl,rfl⟩,by simp only[aU];omega⟩
   have hie:i=cols.length:=by omega
   subst hie
   have hel:es.length=L1.length+(bd (fw g cols sets) cols.length).length:=by rw[hes0,aA]
   refine cZ (mA full where2 g hwl hgW es (by (try simp only[ll] at *);omega)) ?_ ?_<;>simp only[tt,seval]
   refine⟨_,[],my (l:=es++p5 g where2) (by rw[hes0,hL1]),am ?_⟩
   simp only[tt,seval]
 ·skip
  have e:fx g (Stmt.mk 4 (Query.mk distinct items from_ where_ order limit) table rows cols sets where2)=kT 28::kT 3::nT table::p5 g where2:=rfl
  rw[e] at hlen ⊢
  clear e
  refine ae ab false Tryz.func216 rfl (by kernel_rfl) ?_
  simp only[Tryz.f216,tt,seval]
  simp only[ll] at hlen
  apply du 5 2 1
  case h1=>
   refine dDrawn.intro [] (iK [0,6,8,3,5,11,13,15,16]) (by kernel_rfl) ?_
   simp only[tt,seval]
   all_goals repeat' first|refine cJ ?_ ?_|refine b7 ?_ ?_
   all_goals
    refine cZ (bb 28 (by omega) (by omega)) ?_ ?_<;>simp only[tt,seval,kT,Tok.row]
   all_goals repeat' first|refine cJ ?_ ?_|refine b7 ?_ ?_
   all_goals
    refine cZ (bb 3 (by omega) (by omega)) ?_ ?_<;>simp only[tt,seval,kT,Tok.row]
   all_goals repeat' first|refine cJ ?_ ?_|refine b7 ?_ ?_
   all_goals
    refine cZ (cy table) ?_ ?_<;>simp only[tt,seval,nT,Tok.row]
   all_goals repeat' first|refine jU ?_ ?_|refine dR ?_ ?_|refine dS ?_ ?_
   all_goals
    refine⟨by kernel_rfl,⟨by simp only[maxLen];omega,by omega⟩,?_⟩
   all_goals exact⟨rfl,rfl,rfl,rfl,rfl⟩
  case h2=>
   intro f' hj0 hj1 hj2
   simp only[tt,seval,hj0,hj1,hj2]
   refine cZ (mA full where2 g hwl hgW [(Tok.mk 1 (kw 28) 0),(Tok.mk 1 (kw 3) 0),(Tok.mk 2 table 0)] (by simp only[ll];omega)) ?_ ?_<;>simp only[tt,seval,Tok.row]
   refine⟨_,[],my (l:=[(Tok.mk 1 (kw 28) 0),(Tok.mk 1 (kw 3) 0),(Tok.mk 2 table 0)]++p5 g where2) (by rfl),am ?_⟩
   simp only[tt,seval,Tok.row]
set_option maxHeartbeats 1000000 in
theorem D8 (full:Bool) (l:List Expr) (g:Expr->List Tok) (hll:l.length<=1048576) (hg:∀x∈l,rX full x (g x)):g6 262 [.c (.sl l.length (l.flatMap Expr.row) none)] full (lG::(bd (pd g l) l.length++[lH])):=by
 intro out hroom
 simp only[ll] at hroom
 refine ae ab false Tryz.func262 rfl (by kernel_rfl) ?_
 simp only[Tryz.f262,tt,seval]
 refine cS (eT full ⟨#[40]⟩ out (by (try simp only[ll] at *);omega)) ?_ ?_<;>simp only[tt,seval]
 refine fun _=>?_
 obtain⟨L1,hL1⟩:∃L1,L1=out++[gT ⟨#[40]⟩]:=⟨_,rfl⟩
 have hl1:L1.length=out.length+1:=by rw[hL1];simp only[ll]
 rw[<-hL1]
 refine dLoop.gh [.ren 10000007 10000020] ⟨by decide,by decide,?_⟩
 refine dLoop0.intro (fun f L p=>∃(i:Nat) (es:List Tok),f 10=vi i/\i<=l.length/\es=L1++bd (pd g l) i/\L=[(9000,.str [.s 10000020 (es).length,.v (.bool full)]),(10000020,.arr 76 (es).length ((es).flatMap Tok.row) none)]/\p=none) (fun f _ _=>(l.length-aU (f 10)).toNat) [(9000,.str [.s 10000020 (L1).length,.v (.bool full)]),(10000020,.arr 76 (L1).length ((L1).flatMap Tok.row) none)] none ⟨ac rfl (ac rfl (ak _)),al _,?_⟩ ?_
 ·simp only[tt,seval]
  exact⟨0,L1,rfl,by omega,(List.append_nil _).symm,rfl⟩
 ·rintro g' L p ⟨i,es,h10,hi,hes,rfl,rfl⟩
  simp only[tt,seval] at h10
  simp only[tt,seval,h10,Int.ofNat_lt]
  refine aa (fun hlt=>?_) (fun hge=>?_)
  ·have hst:=bC (pd g l) i
   have hlt2:=dH (pd g l) hlt
   have hel:es.length=L1.length+(bd (pd g l) i).length:=by rw[hes,aA]
   obtain⟨it,b5⟩:∃it,it=l[i]:=⟨_,rfl⟩
   have hx:l[i]?=some it:=by rw[b5];exact ay hlt
   have hss:pd g l i=ea i++g it:=by rw[pd,bU hlt,b5]
   rw[hss] at hlt2
   simp only[ll] at hlt2
   have hgi:g6 264 [.ag (av it.row)] full (g it):=hg it (by rw[b5];exact aI hlt)
   have i0:((0:Int)<=(i:Int))=True:=eq_true (by omega)
   have iL:((i:Int)<(l.length:Int))=True:=eq_true (by omega)
   have iT:(i<l.length)=True:=eq_true hlt
   generalize g it=le at *
   obtain⟨k0,o0,n0,v0,q0,m0,ks0,ss0⟩:=it
   simp only[tt,seval,bi hx aC,i0,iT,ah]
   refine cS (g7 full i es (by (try simp only[ll] at *);omega)) ?_ ?_<;>simp only[tt,seval]
   refine cS (hgi (es++ea i) (by (try simp only[ll] at *);omega)) ?_ ?_<;>simp only[tt,seval,h10,ah]
   try rw[dk i (by omega)]
   exact⟨[(9000,.str [.s 10000020 ((es++ea i++le)).length,.v (.bool full)]),(10000020,.arr 76 ((es++ea i++le)).length (((es++ea i++le)).flatMap Tok.row) none)],none,ac rfl (ac rfl (ak _)),al _,⟨i+1,es++ea i++le,rfl,by omega,by rw[hst,hes,hss];simp [aJ],rfl,rfl⟩,by simp only[aU];omega⟩
  ·have hie:i=l.length:=by omega
   subst hie
   have hel:es.length=L1.length+(bd (pd g l) l.length).length:=by rw[hes,aA]
   refine cS (eT full ⟨#[41]⟩ es (by (try simp only[ll] at *);omega)) ?_ ?_<;>simp only[tt,seval]
   refine⟨.tu [],_,⟨rfl,i7 (l:=es++[gT ⟨#[41]⟩]) (by rw[hes,hL1];simp [lG,lH,aJ])⟩,am ?_⟩
   simp only[tt,seval]
set_option maxHeartbeats 8000000 in
theorem Eh (full:Bool) (s:Stmt) (hok:dw s=true) (hr:RgS s) (hsz:bR s<=1048576):g6 219 [.ag (av s.row)] full (fx (nz full) s):=by
 intro out hroom
 have hex:=fun x hx=>ep (s:=s) (x:=x) hx
 obtain⟨_,hp⟩:=qA hok
 obtain⟨kind,q,table,rows,cols,sets,where2⟩:=s
 obtain⟨hlim,hrg⟩:=hr
 have hss:=hsz
 rw[ey] at hss
 simp only[aT,List.mem_append] at hrg hex
 have hT:∀x,fmE x=true->Rg x->aw x<=1048576->rX full x (nz full x):=fun x=>Ee full x
 have hQ:eZ fmE q=true->F5 full q (jX (nz full) q):=fun hq=>by
  have hb:∀x∈exprsQ q,fmE x=true:=by
   obtain⟨d,it,fr,wh,od,li⟩:=q
   exact (fv hq).2.2.2.2.2.2.2
  exact qz full fmE (nz full) q hq hlim (by omega) fun x hx=>hT x (hb x hx) (hrg x (.inl (.inl (.inl hx)))) (Nat.le_trans (hex x (.inl (.inl (.inl hx)))) hsz)
 have hT2:∀x,fmE x=true->(((x∈exprsQ q∨x∈rows.flatMap ERow.l)∨x∈sets)∨x∈where2)->rX full x (nz full x):=fun x hf hm=>hT x hf (hrg x hm) (Nat.le_trans (hex x hm) hsz)
 generalize nz full=g at *
 have hsr:gD rows<=1048576:=by omega
 have hwl:where2.length<=1048576:=by rw[az,az] at hss;omega
 have hcl9:cols.length<=1048576:=by unfold fX at hss;omega
 clear hT hex hss
 rcases hp with⟨rfl,hq⟩|⟨k1,hn,h2,h3,h4,hk⟩
 ·have hq:=hQ hq
  obtain⟨distinct,items,from_,where_,order,limit⟩:=q
  have hq:g6 258 [.ag (av (Query.mk distinct items from_ where_ order limit).row)] full (jX g (Query.mk distinct items from_ where_ order limit)):=hq
  rw[ar] at hq
  rw[Stmt.row_mk,ar]
  simp only[lc]
  have e:fx g (Stmt.mk 1 (Query.mk distinct items from_ where_ order limit) table rows cols sets where2)=jX g (Query.mk distinct items from_ where_ order limit):=rfl
  rw[e] at hroom ⊢
  clear e
  refine ae ab false Tryz.func219 rfl (by kernel_rfl) ?_
  simp only[Tryz.f219,tt,seval]
  refine cS (hq out (by (try simp only[ll] at *);omega)) ?_ ?_<;>simp only[tt,seval]
  refine⟨.tu [],_,⟨rfl,i7 (l:=out++jX g (Query.mk distinct items from_ where_ order limit)) (by rfl)⟩,am ?_⟩
  simp only[tt,seval]
 have hgR:∀x∈rows.flatMap ERow.l,rX full x (g x):=fun x hx=>hT2 x (h2 x hx) (.inl (.inl (.inr hx)))
 have hgT:∀x∈sets,rX full x (g x):=fun x hx=>hT2 x (h3 x hx) (.inl (.inr hx))
 have hgW:∀x∈where2,rX full x (g x):=fun x hx=>hT2 x (h4 x hx) (.inr hx)
 obtain⟨distinct,items,from_,where_,order,limit⟩:=q
 rw[Stmt.row_mk,ar]
 simp only[lc]
 rcases hk with⟨rfl,hl,h12⟩|⟨rfl,hl,hsl,hc⟩|rfl
 ·skip
  have e:fx g (Stmt.mk 2 (Query.mk distinct items from_ where_ order limit) table rows cols sets where2)=kT 23::kT 24::nT table::kT 25::bd (eI g rows) rows.length:=rfl
  rw[e] at hroom ⊢
  clear e
  simp only[ll] at hroom
  refine ae ab false Tryz.func219 rfl (by kernel_rfl) ?_
  simp only[Tryz.f219,tt,seval]
  refine cS (vv full out (by (try simp only[ll] at *);omega)) ?_ ?_<;>simp only[tt,seval]
  refine cS (hY full table (out++[kT 23,kT 24]) (by (try simp only[ll] at *);omega)) ?_ ?_<;>simp only[tt,seval]
  refine cS (D4 full (out++[kT 23,kT 24]++[nT table]) (by (try simp only[ll] at *);omega)) ?_ ?_<;>simp only[tt,seval]
  refine fun _=>?_
  obtain⟨L1,hL1⟩:∃L1,L1=out++[kT 23,kT 24]++[nT table]++[kT 25]:=⟨_,rfl⟩
  have hl1:L1.length=out.length+4:=by rw[hL1];simp only[ll]
  rw[<-hL1]
  refine dLoop.gh [.ren 10000025 10000039] ⟨by decide,by decide,?_⟩
  refine dLoop0.intro (fun f L p=>∃(i:Nat) (es:List Tok),f 29=vi i/\i<=rows.length/\es=L1++bd (eI g rows) i/\L=[(9000,.str [.s 10000039 (es).length,.v (.bool full)]),(10000039,.arr 76 (es).length ((es).flatMap Tok.row) none),(3,.str [.v (.int .i64 2),.v (.bool distinct),.sl items.length (items.flatMap Item.row) none,.sl from_.length (from_.flatMap Source.row) none,.sl where_.length (where_.flatMap Expr.row) none,.sl order.length (order.flatMap SortKey.row) none,.v (.int .i64 limit),.v (.string table),.sl rows.length (rows.flatMap ERow.row) none,.sl cols.length (cols.flatMap srow) none,.sl sets.length (sets.flatMap Expr.row) none,.sl where2.length (where2.flatMap Expr.row) none])]/\p=none) (fun f _ _=>(rows.length-aU (f 29)).toNat) [(9000,.str [.s 10000039 (L1).length,.v (.bool full)]),(10000039,.arr 76 (L1).length ((L1).flatMap Tok.row) none),(3,.str [.v (.int .i64 2),.v (.bool distinct),.sl items.length (items.flatMap Item.row) none,.sl from_.length (from_.flatMap Source.row) none,.sl where_.length (where_.flatMap Expr.row) none,.sl order.length (order.flatMap SortKey.row) none,.v (.int .i64 limit),.v (.string table),.sl rows.length (rows.flatMap ERow.row) none,.sl cols.length (cols.flatMap srow) none,.sl sets.length (sets.flatMap Expr.row) none,.sl where2.length (where2.flatMap Expr.row) none])] none ⟨ac rfl (ac rfl (ac rfl (ak _))),al _,?_⟩ ?_
  ·simp only[tt,seval]
   exact⟨0,L1,rfl,by omega,(List.append_nil _).symm,rfl⟩
  rintro g' L p ⟨i,es,h29,hi,hes,rfl,rfl⟩
  simp only[tt,seval] at h29
  simp only[tt,seval,h29,Int.ofNat_lt]
  refine aa (fun hlt=>?_) (fun hge=>?_)
  ·have hst:=bC (eI g rows) i
   have hlt2:=dH (eI g rows) hlt
   have hel:es.length=L1.length+(bd (eI g rows) i).length:=by rw[hes,aA]
   obtain⟨it,b5⟩:∃it,it=rows[i]:=⟨_,rfl⟩
   have hx:rows[i]?=some it:=by rw[b5];exact ay hlt
   have hmem:it∈rows:=by rw[b5];exact aI hlt
   have hss:eI g rows i=ea i++tC g it:=by rw[eI,bU hlt,b5]
   have hil:=bZ f7 hmem
   rw[fJ,az] at hil
   rw[ee] at hsr
   have hxe:g6 262 [.c (.sl it.l.length (it.l.flatMap Expr.row) none)] full (tC g it):=D8 full it.l g (by omega) fun x hx=>hgR x (List.mem_flatMap.2 ⟨_,hmem,hx⟩)
   rw[hss] at hlt2
   generalize tC g it=le at *
   simp only[ll] at hlt2
   have i0:((0:Int)<=(i:Int))=True:=eq_true (by omega)
   have iL:((i:Int)<(rows.length:Int))=True:=eq_true (by omega)
   have iT:(i<rows.length)=True:=eq_true hlt
   simp only[tt,seval,bi hx ERow.row_len,i0,iT,lM]
   refine cS (g7 full i es (by (try simp only[ll] at *);omega)) ?_ ?_<;>simp only[tt,seval]
   refine cS (hxe (es++ea i) (by (try simp only[ll] at *);omega)) ?_ ?_<;>simp only[tt,seval,h29]
   try rw[dk i (by omega)]
   exact⟨[(9000,.str [.s 10000039 ((es++ea i++le)).length,.v (.bool full)]),(10000039,.arr 76 ((es++ea i++le)).length (((es++ea i++le)).flatMap Tok.row) none),(3,.str [.v (.int .i64 2),.v (.bool distinct),.sl items.length (items.flatMap Item.row) none,.sl from_.length (from_.flatMap Source.row) none,.sl where_.length (where_.flatMap Expr.row) none,.sl order.length (order.flatMap SortKey.row) none,.v (.int .i64 limit),.v (.string table),.sl rows.length (rows.flatMap ERow.row) none,.sl cols.length (cols.flatMap srow) none,.sl sets.length (sets.flatMap Expr.row) none,.sl where2.length (where2.flatMap Expr.row) none])],none,ac rfl (ac rfl (ac rfl (ak _))),al _,⟨i+1,es++ea i++le,rfl,by omega,by rw[hst,hes,hss];simp [aJ],rfl,rfl⟩,by simp only[aU];omega⟩
  have hie:i=rows.length:=by omega
  subst hie
  refine⟨.tu [],_,⟨rfl,i7 (l:=es) (by rw[hes,hL1];simp [aJ])⟩,am ?_⟩
  simp only[tt,seval]
 ·skip
  have e:fx g (Stmt.mk 3 (Query.mk distinct items from_ where_ order limit) table rows cols sets where2)=kT 26::nT table::kT 27::(bd (fw g cols sets) cols.length++p5 g where2):=rfl
  rw[e] at hroom ⊢
  clear e
  simp only[ll] at hroom
  refine ae ab false Tryz.func219 rfl (by kernel_rfl) ?_
  simp only[Tryz.f219,tt,seval]
  refine cS (D5 full out (by (try simp only[ll] at *);omega)) ?_ ?_<;>simp only[tt,seval]
  refine cS (hY full table (out++[kT 26]) (by (try simp only[ll] at *);omega)) ?_ ?_<;>simp only[tt,seval]
  refine cS (FA full (out++[kT 26]++[nT table]) (by (try simp only[ll] at *);omega)) ?_ ?_<;>simp only[tt,seval]
  refine fun _=>?_
  obtain⟨L1,hL1⟩:∃L1,L1=out++[kT 26]++[nT table]++[kT 27]:=⟨_,rfl⟩
  have hl1:L1.length=out.length+3:=by rw[hL1];simp only[ll]
  rw[<-hL1]
  refine dLoop.gh [.ren 10000050 10000073] ⟨by decide,by decide,?_⟩
  refine dLoop0.intro (fun f L p=>∃(i:Nat) (es:List Tok),f 54=vi i/\i<=cols.length/\es=L1++bd (fw g cols sets) i/\L=[(9000,.str [.s 10000073 (es).length,.v (.bool full)]),(10000073,.arr 76 (es).length ((es).flatMap Tok.row) none),(3,.str [.v (.int .i64 3),.v (.bool distinct),.sl items.length (items.flatMap Item.row) none,.sl from_.length (from_.flatMap Source.row) none,.sl where_.length (where_.flatMap Expr.row) none,.sl order.length (order.flatMap SortKey.row) none,.v (.int .i64 limit),.v (.string table),.sl rows.length (rows.flatMap ERow.row) none,.sl cols.length (cols.flatMap srow) none,.sl sets.length (sets.flatMap Expr.row) none,.sl where2.length (where2.flatMap Expr.row) none])]/\p=none) (fun f _ _=>(cols.length-aU (f 54)).toNat) [(9000,.str [.s 10000073 (L1).length,.v (.bool full)]),(10000073,.arr 76 (L1).length ((L1).flatMap Tok.row) none),(3,.str [.v (.int .i64 3),.v (.bool distinct),.sl items.length (items.flatMap Item.row) none,.sl from_.length (from_.flatMap Source.row) none,.sl where_.length (where_.flatMap Expr.row) none,.sl order.length (order.flatMap SortKey.row) none,.v (.int .i64 limit),.v (.string table),.sl rows.length (rows.flatMap ERow.row) none,.sl cols.length (cols.flatMap srow) none,.sl sets.length (sets.flatMap Expr.row) none,.sl where2.length (where2.flatMap Expr.row) none])] none ⟨ac rfl (ac rfl (ac rfl (ak _))),al _,?_⟩ ?_
  ·simp only[tt,seval]
   exact⟨0,L1,rfl,by omega,(List.append_nil _).symm,rfl⟩
  rintro g' L p ⟨i,es,h54,hi,hes,rfl,rfl⟩
  simp only[tt,seval] at h54
  simp only[tt,seval,h54,Int.ofNat_lt]
  refine aa (fun hlt=>?_) (fun hge=>?_)
  ·have hls:i<sets.length:=by omega
   have hst:=bC (fw g cols sets) i
   have hlt2:=dH (fw g cols sets) hlt
   have hel:es.length=L1.length+(bd (fw g cols sets) i).length:=by rw[hes,aA]
   obtain⟨c,hc⟩:∃c,c=cols[i]:=⟨_,rfl⟩
   have hxc:cols[i]?=some c:=by rw[hc];exact ay hlt
   obtain⟨e,he⟩:∃e,e=sets[i]:=⟨_,rfl⟩
   have hxs:sets[i]?=some e:=by rw[he];exact ay hls
   have hss:fw g cols sets i=ea i++([nT c,Ef]++g e):=by rw[fw,bU hlt,bU hls,hc,he]
   rw[hss] at hlt2
   have hxe:g6 264 [.ag (av e.row)] full (g e):=hgT e (by rw[he];exact aI hls)
   generalize g e=le at *
   simp only[ll] at hlt2
   have i0:((0:Int)<=(i:Int))=True:=eq_true (by omega)
   have iC:((i:Int)<(cols.length:Int))=True:=eq_true (by omega)
   have iT:(i<cols.length)=True:=eq_true hlt
   have iS:(i<sets.length)=True:=eq_true hls
   have iS2:((i:Int)<(sets.length:Int))=True:=eq_true (by omega)
   simp only[tt,seval,bi hxc dM,i0,iT,srow]
   refine cS (g7 full i es (by (try simp only[ll] at *);omega)) ?_ ?_<;>simp only[tt,seval]
   refine cS (hY full c (es++ea i) (by (try simp only[ll] at *);omega)) ?_ ?_<;>simp only[tt,seval]
   refine cS (eT full ⟨#[61]⟩ (es++ea i++[nT c]) (by (try simp only[ll] at *);omega)) ?_ ?_<;>simp only[tt,seval,bi hxs aC,i0,iS2,Expr.tk,aC]
   refine cS (hxe (es++ea i++[nT c]++[gT ⟨#[61]⟩]) (by (try simp only[ll] at *);omega)) ?_ ?_<;>simp only[tt,seval,h54]
   try rw[dk i (by omega)]
   exact⟨[(9000,.str [.s 10000073 ((es++ea i++[nT c]++[gT ⟨#[61]⟩]++le)).length,.v (.bool full)]),(10000073,.arr 76 ((es++ea i++[nT c]++[gT ⟨#[61]⟩]++le)).length (((es++ea i++[nT c]++[gT ⟨#[61]⟩]++le)).flatMap Tok.row) none),(3,.str [.v (.int .i64 3),.v (.bool distinct),.sl items.length (items.flatMap Item.row) none,.sl from_.length (from_.flatMap Source.row) none,.sl where_.length (where_.flatMap Expr.row) none,.sl order.length (order.flatMap SortKey.row) none,.v (.int .i64 limit),.v (.string table),.sl rows.length (rows.flatMap ERow.row) none,.sl cols.length (cols.flatMap srow) none,.sl sets.length (sets.flatMap Expr.row) none,.sl where2.length (where2.flatMap Expr.row) none])],none,ac rfl (ac rfl (ac rfl (ak _))),al _,⟨i+1,es++ea i++[nT c]++[gT ⟨#[61]⟩]++le,rfl,by omega,by rw[hst,hes,hss];simp [Ef,aJ],rfl,rfl⟩,by simp only[aU];omega⟩
  have hie:i=cols.length:=by omega
  subst hie
  have hel:es.length=L1.length+(bd (fw g cols sets) cols.length).length:=by rw[hes,aA]
  refine cS (tB full where2 g hwl hgW es (by (try simp only[ll] at *);omega)) ?_ ?_<;>simp only[tt,seval]
  refine⟨.tu [],_,⟨rfl,i7 (l:=es++p5 g where2) (by rw[hes,hL1];simp [aJ])⟩,am ?_⟩
  simp only[tt,seval]
 ·skip
  have e:fx g (Stmt.mk 4 (Query.mk distinct items from_ where_ order limit) table rows cols sets where2)=kT 28::kT 3::nT table::p5 g where2:=rfl
  rw[e] at hroom ⊢
  clear e
  simp only[ll] at hroom
  refine ae ab false Tryz.func219 rfl (by kernel_rfl) ?_
  simp only[Tryz.f219,tt,seval]
  refine cS (vw full out (by (try simp only[ll] at *);omega)) ?_ ?_<;>simp only[tt,seval]
  refine cS (hY full table (out++[kT 28,kT 3]) (by (try simp only[ll] at *);omega)) ?_ ?_<;>simp only[tt,seval]
  refine cS (tB full where2 g hwl hgW (out++[kT 28,kT 3]++[nT table]) (by (try simp only[ll] at *);omega)) ?_ ?_<;>simp only[tt,seval]
  refine⟨.tu [],_,⟨rfl,i7 (l:=out++[kT 28,kT 3]++[nT table]++p5 g where2) (by simp)⟩,am ?_⟩
  simp only[tt,seval]
noncomputable def dL (s:Stmt):List Tok:=if dw s=true then fx (nz false) s else []
theorem qB (full:Bool) (s:Stmt) (hr:RgS s) (h:dw s=true):(fx (nz full) s).length<=1000000/\(∀t∈fx (nz full) s,t.text.size<=1048576)/\(ge (fx (nz full) s) (fx (nz full) s).length).length<=50000000:=by
 have hs:=Du full h hr
 exact⟨Nat.le_trans hs.1 (by decide),fun t ht=>Nat.le_trans (hs.2 t ht) (by decide),Bh hs (by decide)⟩
theorem gI (s:Stmt) (hr:RgS s):(∀t∈dL s,t.text.size<=1048576)/\(ge (dL s) (dL s).length).length<=50000000:=by
 unfold dL
 split
 ·rename_i h
  exact (qB false s hr h).2
 ·exact⟨fun t h=>(by cases h),(by decide)⟩
theorem tD (s:Stmt) (hr:RgS s) (hsz:bR s<=1048576):Cl Tryz.prog 148 [.ag (av s.row)] [] fun r _=>r = .c (.sl (dL s).length ((dL s).flatMap Tok.row) none):=by
 have c1:=vp s hsz
 have ht:=qB false s hr
 have he:=zj false s
 unfold dL
 generalize fx (nz false) s=l at *
 cases hb:dw s
 case false=>
  rw[hb] at c1
  obtain⟨kind,⟨distinct,items,from_,where_,order,limit⟩,table,rows,cols,sets,where2⟩:=s
  rw[Stmt.row_mk,ar] at c1 ⊢
  simp only[lc] at c1 ⊢
  refine ae ab false Tryz.func148 rfl (by kernel_rfl) ?_
  simp only[Tryz.f148,tt,seval]
  refine cZ (c1) ?_ ?_<;>simp only[tt,seval]
  refine⟨_,[],rfl,am ?_⟩
  simp only[tt,seval]
 case true=>
  rw[hb] at c1
  obtain⟨h1,h2,h3⟩:=ht hb
  have he:Cl Tryz.prog 216 [.ag (av s.row),vb false] [] fun r _=>r = .c (.ow 76 (l).length ((l).flatMap Tok.row) none):=he hb hr hsz
  obtain⟨kind,⟨distinct,items,from_,where_,order,limit⟩,table,rows,cols,sets,where2⟩:=s
  rw[Stmt.row_mk,ar] at c1 he ⊢
  simp only[lc] at c1 he ⊢
  refine ae ab false Tryz.func148 rfl (by kernel_rfl) ?_
  simp only[Tryz.f148,tt,seval]
  refine cZ (c1) ?_ ?_<;>simp only[tt,seval]
  refine cZ (he) ?_ ?_<;>simp only[tt,seval]
  refine⟨_,[],rfl,am ?_⟩
  simp only[tt,seval]
theorem r7 (s:Stmt) (hr:RgS s) (hsz:bR s<=1048576):Cl Tryz.prog 150 [.ag (av s.row)] [] fun r _=>r = .c (.sl (dL s).length ((dL s).flatMap Tok.row) none):=by
 have c1:=rR s hsz
 have ht:=qB false s hr
 have he:=Eh false s
 unfold dL
 generalize fx (nz false) s=l at *
 cases hb:dw s
 case false=>
  rw[hb] at c1
  obtain⟨kind,⟨distinct,items,from_,where_,order,limit⟩,table,rows,cols,sets,where2⟩:=s
  rw[Stmt.row_mk,ar] at c1 ⊢
  simp only[lc] at c1 ⊢
  refine ae ab false Tryz.func150 rfl (by kernel_rfl) ?_
  simp only[Tryz.f150,tt,seval]
  refine cZ (c1) ?_ ?_<;>simp only[tt,seval]
  refine⟨_,[],rfl,am ?_⟩
  simp only[tt,seval]
 case true=>
  rw[hb] at c1
  obtain⟨h1,h2,h3⟩:=ht hb
  have he:g6 219 [.ag (av s.row)] false (l):=he hb hr hsz
  obtain⟨kind,⟨distinct,items,from_,where_,order,limit⟩,table,rows,cols,sets,where2⟩:=s
  rw[Stmt.row_mk,ar] at c1 he ⊢
  simp only[lc] at c1 he ⊢
  refine ae ab false Tryz.func150 rfl (by kernel_rfl) ?_
  simp only[Tryz.f150,tt,seval]
  refine cZ (c1) ?_ ?_<;>simp only[tt,seval]
  refine cS (he [] (by simp only[List.length_nil];omega)) ?_ ?_<;>simp only[tt,seval]
  refine⟨_,[],rfl,am ?_⟩
  simp only[tt,seval]
theorem wE (s:Stmt) (hr:RgS s) (hsz:bR s<=1048576):Cl Tryz.prog 84 [.ag (av s.row)] [] fun r _=>r=vs (dD (dL s)):=by
 have c1:=tD s hr hsz
 have sp:=zF (dL s) (gI s hr).1 (gI s hr).2
 generalize dL s=l at *
 obtain⟨kind,⟨distinct,items,from_,where_,order,limit⟩,table,rows,cols,sets,where2⟩:=s
 rw[Stmt.row_mk,ar] at c1 ⊢
 simp only[lc] at c1 ⊢
 refine ae ab false Tryz.func84 rfl (by kernel_rfl) ?_
 simp only[Tryz.f84,tt,seval]
 refine cZ (c1) ?_ ?_<;>simp only[tt,seval]
 refine cZ (sp) ?_ ?_<;>simp only[tt,seval]
 exact⟨_,_,rfl,ai rfl⟩
theorem vx (s:Stmt) (hr:RgS s) (hsz:bR s<=1048576):Cl Tryz.prog 85 [.ag (av s.row)] [] fun r _=>r=vs (dD (dL s)):=by
 have c1:=r7 s hr hsz
 have sp:=yh (dL s) (gI s hr).1 (gI s hr).2
 generalize dL s=l at *
 obtain⟨kind,⟨distinct,items,from_,where_,order,limit⟩,table,rows,cols,sets,where2⟩:=s
 rw[Stmt.row_mk,ar] at c1 ⊢
 simp only[lc] at c1 ⊢
 refine ae ab false Tryz.func85 rfl (by kernel_rfl) ?_
 simp only[Tryz.f85,tt,seval]
 refine cZ (c1) ?_ ?_<;>simp only[tt,seval]
 refine cZ (sp) ?_ ?_<;>simp only[tt,seval]
 exact⟨_,_,rfl,ai rfl⟩
end Go.Proofs.YteffjmaadkkmeaaGreatDoor
