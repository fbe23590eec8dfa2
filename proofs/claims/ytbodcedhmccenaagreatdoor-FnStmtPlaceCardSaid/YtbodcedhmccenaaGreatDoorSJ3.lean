/-
  The reference's printer of statements.
  Conditions: none.
-/
import Derived.Test.YtbodcedhmccenaaGreatDoorSF3
import Derived.Test.YtbodcedhmccenaaGreatDoorSJ1
set_option linter.unusedVariables false
set_option linter.unusedSimpArgs false
set_option linter.unusedSectionVars false
set_option maxRecDepth 8000
namespace Go.Proofs.YtbodcedhmccenaaGreatDoor
open Go Go.Dv
open Go.Vc (D d5 d6 cM bo)
def EU:Tok:=gT ⟨#[61]⟩
def vy (g:Expr->List Tok) (l:List Expr) (i:Nat):List Tok:=oP i++vM l g i
def zK (g:Expr->List Tok) (x:ERow):List Tok:=tC::(bJ (vy g x.l) x.l.length++[tD])
def io (g:Expr->List Tok) (rows:List ERow) (i:Nat):List Tok:=oP i++vM rows (zK g) i
def kX (g:Expr->List Tok) (cols:List ByteArray) (sets:List Expr) (i:Nat):List Tok:=oP i++(vM cols (fun c=>[nT c,EU]) i++vM sets g i)
def oR (g:Expr->List Tok):Stmt->List Tok
 |.mk kind q table rows cols sets where2=>
  if kind=1 then qC g q else if kind=2 then kT 23::kT 24::nT table::kT 25::bJ (io g rows) rows.length
  else if kind=3 then kT 26::nT table::kT 27::(bJ (kX g cols sets) cols.length++vN g where2) else kT 28::kT 3::nT table::vN g where2
section
variable {gn:Expr->Nat} {g:Expr->List Tok}
theorem Em {l:List Expr} (h:∀x∈l,Sm (150*gn x) (g x)):Sm (l.length+150*(l.map gn).sum) (bJ (vy g l) l.length):=by
 have s1:Sm _ (bJ (vy g l) l.length):=Sm.seq (b:=fun i=>1+kV (fun x=>150*gn x) l[i]?) fun i hi=>by
  show Sm _ (oP i++vM l g i)
  rw[dP hi]
  simp only[az hi,kV]
  exact (Sm.ite (Sm.one (by decide)) (Sm.nil.le (by omega):Sm 1 [])).app (h _ (aK hi))
 rw[fU l 1 (fun x=>150*gn x),pq] at s1
 exact s1.le (by omega)
theorem Dk {rows:List ERow} (hr:rows.all Ev=true) (h:∀x∈rows.flatMap ERow.l,Sm (150*gn x) (g x)):Sm (15*rows.length+150*((rows.flatMap ERow.l).map gn).sum) (bJ (io g rows) rows.length):=by
 have s1:Sm _ (bJ (io g rows) rows.length):=Sm.seq (b:=fun i=>15+kV (fun x:ERow=>150*(x.l.map gn).sum) rows[i]?) fun i hi=>by
  have hm:=aK hi
  have h12:=List.all_eq_true.1 hr _ hm
  simp only[Ev,decide_eq_true_eq] at h12
  show Sm _ (oP i++vM rows (zK g) i)
  rw[dP hi]
  simp only[az hi,kV]
  have se:=Em (gn:=gn) (g:=g) (l:=rows[i].l) fun x hx=>h x (List.mem_flatMap.2 ⟨_,hm,hx⟩)
  exact ((Sm.ite (Sm.one (by decide)) (Sm.nil.le (by omega):Sm 1 [])).app (Sm.cons (by decide) (se.app (Sm.one (by decide))))).le (by omega)
 rw[fU rows 15 (fun x:ERow=>150*(x.l.map gn).sum)] at s1
 have e:(rows.map fun x:ERow=>150*(x.l.map gn).sum).sum=150*((rows.flatMap ERow.l).map gn).sum:=by
  clear s1 h hr
  induction rows with
  |nil=>rfl
  |cons x r ih=>rw[List.map_cons,List.sum_cons,ih,List.flatMap_cons,List.map_append,List.sum_append,Nat.mul_add]
 rw[e] at s1
 exact s1
theorem Dl {cols:List ByteArray} {sets:List Expr} (hc:cols.all bt=true) (he:sets.length=cols.length) (h:∀x∈sets,Sm (150*gn x) (g x)):Sm (3*sets.length+150*(sets.map gn).sum) (bJ (kX g cols sets) cols.length):=by
 have s1:Sm _ (bJ (kX g cols sets) sets.length):=Sm.seq (b:=fun i=>3+kV (fun x=>150*gn x) sets[i]?) fun i hi=>by
  have hi':i<cols.length:=by omega
  have hn:=List.all_eq_true.1 hc _ (aK hi')
  simp only[bt,decide_eq_true_eq] at hn
  show Sm _ (oP i++(vM cols (fun c=>[nT c,EU]) i++vM sets g i))
  rw[dP hi,dP hi']
  simp only[az hi,kV]
  exact ((Sm.ite (Sm.one (by decide)) (Sm.nil.le (by omega):Sm 1 [])).app ((Sm.cons (by show (cols[i]).size<=40;omega) (Sm.one (by decide))).app (h _ (aK hi)))).le (by omega)
 rw[fU sets 3 (fun x=>150*gn x),pq] at s1
 rw[<-he]
 exact s1
end
def FH (s:Stmt):Prop:=s.query.lim<=9223372036854775807/\∀x,x∈cy s->Rg x
theorem vz {s:Stmt} (h:tF s=true):ET s=true/\match s with
 | .mk kind q table rows cols sets where2=>(kind=1/\eO fmE q=true)∨(kind≠1/\bt table=true/\(∀x∈rows.flatMap ERow.l,fmE x=true)/\(∀x∈sets,fmE x=true)/\(∀x∈where2,fmE x=true) /\
  ((kind=2/\rows.length<=5/\rows.all Ev=true)∨(kind=3/\cols.length<=12/\sets.length=cols.length/\cols.all bt=true)∨kind=4)):=by
 obtain⟨kind,q,table,rows,cols,sets,where2⟩:=s
 simp only[tF,Bool.and_eq_true] at h
 refine⟨h.1,?_⟩
 have h:=h.2
 simp only[Ew] at h
 by_cases k1:kind=1
 ·simp only[if_pos k1,Bool.and_eq_true] at h
  exact .inl ⟨k1,h.2.2.2.2.2⟩
 refine .inr ⟨k1,?_⟩
 simp only[if_neg k1,Bool.and_eq_true,cy,List.all_append] at h
 obtain⟨_,h1,⟨⟨⟨_,h2⟩,h3⟩,h4⟩,h5⟩:=h
 refine⟨h1,List.all_eq_true.1 h2,List.all_eq_true.1 h3,List.all_eq_true.1 h4,?_⟩
 unfold vt at h5
 by_cases k2:kind=2
 ·simp only[if_pos k2,Bool.and_eq_true,decide_eq_true_eq] at h5
  exact .inl ⟨k2,h5.2.2.2.2.1,h5.2.2.2.2.2⟩
 simp only[if_neg k2] at h5
 by_cases k3:kind=3
 ·simp only[if_pos k3,Bool.and_eq_true,decide_eq_true_eq] at h5
  exact .inr (.inl ⟨k3,h5.2.2.1,h5.2.2.2.1,h5.2.2.2.2.2⟩)
 simp only[if_neg k3] at h5
 by_cases k4:kind=4
 ·exact .inr (.inr k4)
 ·simp [if_neg k4] at h5
theorem DH (full:Bool) {s:Stmt} (h:tF s=true) (hr:FH s):Sm 60000 (oR (pd full) s):=by
 obtain⟨hsm,hp⟩:=vz h
 obtain⟨kind,q,table,rows,cols,sets,where2⟩:=s
 obtain⟨hlim,hrg⟩:=hr
 simp only[ET,Bool.and_eq_true,decide_eq_true_eq] at hsm
 have hsum:=hsm.2
 simp only[cy,List.map_append,List.sum_append] at hsum
 simp only[cy,List.mem_append] at hrg
 have he:∀x,fmE x=true->Rg x->Sm (150*ndE x) (pd full x):=fun x=>wK full x
 rcases hp with⟨rfl,hq⟩|⟨k1,hn,h2,h3,h4,hk⟩
 ·have hb:∀x∈exprsQ q,fmE x=true:=by
   obtain⟨d,it,fr,wh,od,li⟩:=q
   exact (jw hq).2.2.2.2.2.2.2
  have:=ES (gn:=ndE) (g:=pd full) hq hlim fun x hx=>he x (hb x hx) (hrg x (.inl (.inl (.inl hx))))
  exact this.le (by omega)
 ·simp only[bt,decide_eq_true_eq] at hn
  have hnm:(nT table).text.size<=40:=by show table.size<=40;omega
  have sw:=DF (gn:=ndE) (g:=pd full) (l:=where2) fun x hx=>he x (h4 x hx) (hrg x (.inr hx))
  rcases hk with⟨rfl,hl,h12⟩|⟨rfl,hl,hsl,hc⟩|rfl
  ·have sr:=Dk (gn:=ndE) (g:=pd full) h12 fun x hx=>he x (h2 x hx) (hrg x (.inl (.inl (.inr hx))))
   exact (Sm.cons (cg 23) (Sm.cons (cg 24) (Sm.cons hnm (Sm.cons (cg 25) sr)))).le (by omega)
  ·have ss:=Dl (gn:=ndE) (g:=pd full) hc hsl fun x hx=>he x (h3 x hx) (hrg x (.inl (.inr hx)))
   exact (Sm.cons (cg 26) (Sm.cons hnm (Sm.cons (cg 27) (ss.app sw)))).le (by omega)
  ·exact (Sm.cons (cg 28) (Sm.cons (cg 3) (Sm.cons hnm sw))).le (by omega)
set_option maxHeartbeats 4000000 in
theorem zL (full:Bool) (rows:List ERow) (g:Expr->List Tok) (hsz:jF rows<=1048576) (hg:∀x∈rows.flatMap ERow.l,qU full x (g x)) (out:List Tok) (hroom:out.length+(bJ (io g rows) rows.length).length<=1000000):Cl Tryz.prog 216 [.c (.ow 150 (out).length ((out).flatMap Tok.row) none),.c (.sl rows.length (rows.flatMap ERow.row) none),vb full] [] fun r _=>r = .c (.ow 150 (out++bJ (io g rows) rows.length).length ((out++bJ (io g rows) rows.length).flatMap Tok.row) none):=by
 have hrn:=BT rows
 refine ah ab false Tryz.func216 rfl (by kernel_rfl) ?_
 simp only[Tryz.f216,tt,seval]
 refine dLoop.gh [.ren 9500 53] ⟨by decide,by decide,?_⟩
 refine dLoop0.intro (fun f L p=>∃(i:Nat) (es:List Tok),f 7=vi i/\f 0 = .c (.s 53 es.length)/\i<=rows.length/\es=out++bJ (io g rows) i/\L=[(53,.arr 150 (es).length ((es).flatMap Tok.row) none)]/\p=none) (fun f _ _=>(rows.length-bq (f 7)).toNat) [(53,.arr 150 (out).length ((out).flatMap Tok.row) none)] none ⟨ac rfl (al _),an _,?_⟩ ?_
 ·simp only[tt,seval]
  exact⟨0,out,rfl,rfl,by omega,(List.append_nil _).symm,rfl⟩
 ·rintro g1 L p ⟨i,eo,h7,h0,hi,heo,rfl,rfl⟩
  simp only[tt,seval] at h7 h0
  simp only[tt,seval,h7,h0,Int.ofNat_lt]
  refine fun _=>aa (fun hlt=>?_) (fun hge=>?_)
  ·have hlt:i<rows.length:=by omega
   have hst:=dA (io g rows) i
   have hltr:=iQ (io g rows) hlt
   have helo:eo.length=out.length+(bJ (io g rows) i).length:=by rw[heo,aB]
   obtain⟨it,bD⟩:∃it,it=rows[i]:=⟨_,rfl⟩
   have hx:rows[i]?=some it:=by rw[bD];exact az hlt
   have hmem:it∈rows:=by rw[bD];exact aK hlt
   have hss:io g rows i=oP i++zK g it:=by rw[io,dP hlt,bD]
   rw[hss,zK] at hltr
   have hgi:∀x∈it.l,qU full x (g x):=fun x hx=>hg x (List.mem_flatMap.2 ⟨_,hmem,hx⟩)
   have hil:=dX jE hmem
   rw[l8,aC] at hil
   rw[eU] at hsz
   have hl9:(it.l.length<=9223372036854775807)=True:=eq_true (by omega)
   have i0:((0:Int)<=(i:Int))=True:=eq_true (by omega)
   have iL:((i:Int)<(rows.length:Int))=True:=eq_true (by omega)
   have iT:(i<rows.length)=True:=eq_true hlt
   refine aa (fun hc=>?_) (fun hc=>?_)
   ·have hcl:oP i=[(Tok.mk 5 ⟨#[44]⟩ 0)]:=if_pos (by omega)
    rw[hcl] at hltr
    simp only[ll] at hltr
    refine cZ (aU ⟨#[44]⟩) ?_ ?_<;>simp only[tt,seval,gT,iT,Tok.row]
    refine⟨by kernel_rfl,⟨by simp only[maxLen];(try simp only[ll] at *);omega,by (try simp only[ll] at *);omega⟩,?_⟩
    rw[dg (eo),cO (eo) (Tok.mk 5 ⟨#[44]⟩ 0)]
    refine cZ (aU ⟨#[40]⟩) ?_ ?_<;>simp only[tt,seval,gT,Tok.row]
    refine⟨by kernel_rfl,⟨by simp only[maxLen];(try simp only[ll] at *);omega,by (try simp only[ll] at *);omega⟩,?_⟩
    rw[dg (eo++[(Tok.mk 5 ⟨#[44]⟩ 0)]),cO (eo++[(Tok.mk 5 ⟨#[44]⟩ 0)]) (Tok.mk 5 ⟨#[40]⟩ 0)]
    obtain⟨L1,hL1⟩:∃L1,L1=eo++[(Tok.mk 5 ⟨#[44]⟩ 0)]++[(Tok.mk 5 ⟨#[40]⟩ 0)]:=⟨_,rfl⟩
    have hl1:L1.length=eo.length+2:=by rw[hL1];simp only[ll]
    rw[<-hL1]
    refine dLoop.gh [.ren 24 10049] ⟨by decide,by decide,?_⟩
    refine dLoop0.intro (fun f L p=>∃(j:Nat) (es:List Tok),f 8=vi j/\f 0 = .c (.s 10049 es.length)/\j<=it.l.length/\es=L1++bJ (vy g it.l) j/\L=[(10049,.arr 150 (es).length ((es).flatMap Tok.row) none)]/\p=none) (fun f _ _=>(it.l.length-bq (f 8)).toNat) [(10049,.arr 150 (L1).length ((L1).flatMap Tok.row) none)] none ⟨ac rfl (al _),an _,?_⟩ ?_
    ·simp only[tt,seval]
     exact⟨0,L1,rfl,rfl,by omega,(List.append_nil _).symm,rfl⟩
    ·rintro g2 L p ⟨j,es,h8,h0,hj,hes1,rfl,rfl⟩
     simp only[tt,seval] at h8 h0
     simp only[tt,seval,h7,h8,h0,bP hx ERow.row_len,i0,iL,xi,hl9,Int.ofNat_lt]
     refine aa (fun hlt=>?_) (fun hge=>?_)
     ·have hlt:j<it.l.length:=by omega
      have hst2:=dA (vy g it.l) j
      have hlt2:=iQ (vy g it.l) hlt
      have hel1:es.length=L1.length+(bJ (vy g it.l) j).length:=by rw[hes1,aB]
      obtain⟨e,he⟩:∃e,e=it.l[j]:=⟨_,rfl⟩
      have hy:it.l[j]?=some e:=by rw[he];exact az hlt
      have hel2:vy g it.l j=oP j++g e:=by rw[vy,dP hlt,he]
      rw[hel2] at hlt2
      have hge:∀out:List Tok,out.length+(g e).length<=1000000->Cl Tryz.prog 80 [.c (.ow 150 (out).length ((out).flatMap Tok.row) none),.ag (ar e.row),vb full] [] fun r _=>r = .c (.ow 150 (out++g e).length ((out++g e).flatMap Tok.row) none):=hgi e (by rw[he];exact aK hlt)
      have j0:((0:Int)<=(j:Int))=True:=eq_true (by omega)
      have jL:((j:Int)<(it.l.length:Int))=True:=eq_true (by omega)
      have jT:(j<it.l.length)=True:=eq_true hlt
      refine aa (fun hc=>?_) (fun hc=>?_)
      ·have hcl:oP j=[(Tok.mk 5 ⟨#[44]⟩ 0)]:=if_pos (by omega)
       rw[hcl] at hlt2 hel2
       simp only[ll] at hlt2
       refine cZ (aU ⟨#[44]⟩) ?_ ?_<;>simp only[tt,seval,gT,Tok.row,h7,h8]
       refine⟨by kernel_rfl,⟨by simp only[maxLen];(try simp only[ll] at *);omega,by (try simp only[ll] at *);omega⟩,?_⟩
       rw[dg (es),cO (es) (Tok.mk 5 ⟨#[44]⟩ 0)]
       simp only[tt,seval,bP hx ERow.row_len,i0,iL,xi,bP hy aJ,j0,jL,jT,Expr.tk,aJ]
       refine cZ (hge (es++[(Tok.mk 5 ⟨#[44]⟩ 0)]) (by (try simp only[ll] at *);omega)) ?_ ?_<;>simp only[tt,seval,h8]
       try rw[aq (n:=(j:Int)+1) (by omega) (by omega)]
       exact⟨[(10049,.arr 150 (es++[(Tok.mk 5 ⟨#[44]⟩ 0)]++g e).length ((es++[(Tok.mk 5 ⟨#[44]⟩ 0)]++g e).flatMap Tok.row) none)],none,ac rfl (al _),an _,⟨j+1,es++[(Tok.mk 5 ⟨#[44]⟩ 0)]++g e,rfl,rfl,by omega,by rw[hst2,hes1,hel2];simp [b9],rfl,rfl⟩,by simp only[bq];omega⟩
      ·have hcl:oP j=[]:=if_neg (by omega)
       rw[hcl] at hlt2 hel2
       simp only[ll] at hlt2
       simp only[tt,seval,bP hy aJ,j0,jT,Expr.tk,aJ]
       refine cZ (hge (es) (by (try simp only[ll] at *);omega)) ?_ ?_<;>simp only[tt,seval,h8]
       try rw[aq (n:=(j:Int)+1) (by omega) (by omega)]
       exact⟨[(10049,.arr 150 (es++g e).length ((es++g e).flatMap Tok.row) none)],none,ac rfl (al _),an _,⟨j+1,es++g e,rfl,rfl,by omega,by rw[hst2,hes1,hel2];simp [b9],rfl,rfl⟩,by simp only[bq];omega⟩
     ·have hje:j=it.l.length:=by omega
      subst hje
      have hel1:es.length=L1.length+(bJ (vy g it.l) it.l.length).length:=by rw[hes1,aB]
      refine cZ (aU ⟨#[41]⟩) ?_ ?_<;>simp only[tt,seval,gT,Tok.row,h7]
      refine⟨by kernel_rfl,⟨by simp only[maxLen];(try simp only[ll] at *);omega,by (try simp only[ll] at *);omega⟩,?_⟩
      rw[dg (es),cO (es) (Tok.mk 5 ⟨#[41]⟩ 0)]
      try rw[f5 i (by omega)]
      exact⟨[(53,.arr 150 (es++[(Tok.mk 5 ⟨#[41]⟩ 0)]).length ((es++[(Tok.mk 5 ⟨#[41]⟩ 0)]).flatMap Tok.row) none)],none,ac rfl (al _),an _,⟨i+1,es++[(Tok.mk 5 ⟨#[41]⟩ 0)],rfl,rfl,by omega,by rw[hst,hss,hcl,heo,zK] at *;rw[hes1,hL1];simp [gT,tC,tD,b9],rfl,rfl⟩,by simp only[bq];omega⟩
   ·have hcl:oP i=[]:=if_neg (by omega)
    rw[hcl] at hltr
    simp only[ll] at hltr
    refine cZ (aU ⟨#[40]⟩) ?_ ?_<;>simp only[tt,seval,gT,iT,Tok.row]
    refine⟨by kernel_rfl,⟨by simp only[maxLen];(try simp only[ll] at *);omega,by (try simp only[ll] at *);omega⟩,?_⟩
    rw[dg (eo),cO (eo) (Tok.mk 5 ⟨#[40]⟩ 0)]
    obtain⟨L1,hL1⟩:∃L1,L1=eo++[(Tok.mk 5 ⟨#[40]⟩ 0)]:=⟨_,rfl⟩
    have hl1:L1.length=eo.length+1:=by rw[hL1];simp only[ll]
    rw[<-hL1]
    refine dLoop.gh [.ren 24 10049] ⟨by decide,by decide,?_⟩
    refine dLoop0.intro (fun f L p=>∃(j:Nat) (es:List Tok),f 8=vi j/\f 0 = .c (.s 10049 es.length)/\j<=it.l.length/\es=L1++bJ (vy g it.l) j/\L=[(10049,.arr 150 (es).length ((es).flatMap Tok.row) none)]/\p=none) (fun f _ _=>(it.l.length-bq (f 8)).toNat) [(10049,.arr 150 (L1).length ((L1).flatMap Tok.row) none)] none ⟨ac rfl (al _),an _,?_⟩ ?_
    ·simp only[tt,seval]
     exact⟨0,L1,rfl,rfl,by omega,(List.append_nil _).symm,rfl⟩
    ·rintro g2 L p ⟨j,es,h8,h0,hj,hes1,rfl,rfl⟩
     simp only[tt,seval] at h8 h0
     simp only[tt,seval,h7,h8,h0,bP hx ERow.row_len,i0,iL,xi,hl9,Int.ofNat_lt]
     refine aa (fun hlt=>?_) (fun hge=>?_)
     ·have hlt:j<it.l.length:=by omega
      have hst2:=dA (vy g it.l) j
      have hlt2:=iQ (vy g it.l) hlt
      have hel1:es.length=L1.length+(bJ (vy g it.l) j).length:=by rw[hes1,aB]
      obtain⟨e,he⟩:∃e,e=it.l[j]:=⟨_,rfl⟩
      have hy:it.l[j]?=some e:=by rw[he];exact az hlt
      have hel2:vy g it.l j=oP j++g e:=by rw[vy,dP hlt,he]
      rw[hel2] at hlt2
      have hge:∀out:List Tok,out.length+(g e).length<=1000000->Cl Tryz.prog 80 [.c (.ow 150 (out).length ((out).flatMap Tok.row) none),.ag (ar e.row),vb full] [] fun r _=>r = .c (.ow 150 (out++g e).length ((out++g e).flatMap Tok.row) none):=hgi e (by rw[he];exact aK hlt)
      have j0:((0:Int)<=(j:Int))=True:=eq_true (by omega)
      have jL:((j:Int)<(it.l.length:Int))=True:=eq_true (by omega)
      have jT:(j<it.l.length)=True:=eq_true hlt
      refine aa (fun hc=>?_) (fun hc=>?_)
      ·have hcl:oP j=[(Tok.mk 5 ⟨#[44]⟩ 0)]:=if_pos (by omega)
       rw[hcl] at hlt2 hel2
       simp only[ll] at hlt2
       refine cZ (aU ⟨#[44]⟩) ?_ ?_<;>simp only[tt,seval,gT,Tok.row,h7,h8]
       refine⟨by kernel_rfl,⟨by simp only[maxLen];(try simp only[ll] at *);omega,by (try simp only[ll] at *);omega⟩,?_⟩
       rw[dg (es),cO (es) (Tok.mk 5 ⟨#[44]⟩ 0)]
       simp only[tt,seval,bP hx ERow.row_len,i0,iL,xi,bP hy aJ,j0,jL,jT,Expr.tk,aJ]
       refine cZ (hge (es++[(Tok.mk 5 ⟨#[44]⟩ 0)]) (by (try simp only[ll] at *);omega)) ?_ ?_<;>simp only[tt,seval,h8]
       try rw[aq (n:=(j:Int)+1) (by omega) (by omega)]
       exact⟨[(10049,.arr 150 (es++[(Tok.mk 5 ⟨#[44]⟩ 0)]++g e).length ((es++[(Tok.mk 5 ⟨#[44]⟩ 0)]++g e).flatMap Tok.row) none)],none,ac rfl (al _),an _,⟨j+1,es++[(Tok.mk 5 ⟨#[44]⟩ 0)]++g e,rfl,rfl,by omega,by rw[hst2,hes1,hel2];simp [b9],rfl,rfl⟩,by simp only[bq];omega⟩
      ·have hcl:oP j=[]:=if_neg (by omega)
       rw[hcl] at hlt2 hel2
       simp only[ll] at hlt2
       simp only[tt,seval,bP hy aJ,j0,jT,Expr.tk,aJ]
       refine cZ (hge (es) (by (try simp only[ll] at *);omega)) ?_ ?_<;>simp only[tt,seval,h8]
       try rw[aq (n:=(j:Int)+1) (by omega) (by omega)]
       exact⟨[(10049,.arr 150 (es++g e).length ((es++g e).flatMap Tok.row) none)],none,ac rfl (al _),an _,⟨j+1,es++g e,rfl,rfl,by omega,by rw[hst2,hes1,hel2];simp [b9],rfl,rfl⟩,by simp only[bq];omega⟩
     ·have hje:j=it.l.length:=by omega
      subst hje
      have hel1:es.length=L1.length+(bJ (vy g it.l) it.l.length).length:=by rw[hes1,aB]
      refine cZ (aU ⟨#[41]⟩) ?_ ?_<;>simp only[tt,seval,gT,Tok.row,h7]
      refine⟨by kernel_rfl,⟨by simp only[maxLen];(try simp only[ll] at *);omega,by (try simp only[ll] at *);omega⟩,?_⟩
      rw[dg (es),cO (es) (Tok.mk 5 ⟨#[41]⟩ 0)]
      try rw[f5 i (by omega)]
      exact⟨[(53,.arr 150 (es++[(Tok.mk 5 ⟨#[41]⟩ 0)]).length ((es++[(Tok.mk 5 ⟨#[41]⟩ 0)]).flatMap Tok.row) none)],none,ac rfl (al _),an _,⟨i+1,es++[(Tok.mk 5 ⟨#[41]⟩ 0)],rfl,rfl,by omega,by rw[hst,hss,hcl,heo,zK] at *;rw[hes1,hL1];simp [gT,tC,tD,b9],rfl,rfl⟩,by simp only[bq];omega⟩
  ·have hie:i=rows.length:=by omega
   subst hie
   subst heo
   refine⟨_,[],mt (l:=out++bJ (io g rows) rows.length) (by rfl),ai ?_⟩
   simp only[tt,seval]
set_option maxHeartbeats 8000000 in
theorem zM (full:Bool) (s:Stmt) (hok:tF s=true) (hr:FH s) (hsz:pH s<=1048576):Cl Tryz.prog 107 [.ag (ar s.row),vb full] [] fun r _=>r = .c (.ow 150 (oR (pd full) s).length ((oR (pd full) s).flatMap Tok.row) none):=by
 have hlen:=(DH full hok hr).1
 have hex:=fun x hx=>wL (s:=s) (x:=x) hx
 obtain⟨_,hp⟩:=vz hok
 obtain⟨kind,q,table,rows,cols,sets,where2⟩:=s
 obtain⟨hlim,hrg⟩:=hr
 have hss:=hsz
 rw[gL] at hss
 simp only[cy,List.mem_append] at hrg hex
 have hT:∀x,fmE x=true->Rg x->szExpr x<=1048576->qU full x (pd full x):=fun x=>om full x
 have hQ:eO fmE q=true->FG full q (qC (pd full) q):=fun hq=>by
  have hb:∀x∈exprsQ q,fmE x=true:=by
   obtain⟨d,it,fr,wh,od,li⟩:=q
   exact (jw hq).2.2.2.2.2.2.2
  exact lU full fmE (pd full) q hq hlim (by omega) fun x hx=>hT x (hb x hx) (hrg x (.inl (.inl (.inl hx)))) (Nat.le_trans (hex x (.inl (.inl (.inl hx)))) hsz)
 have hT2:∀x,fmE x=true->(((x∈exprsQ q∨x∈rows.flatMap ERow.l)∨x∈sets)∨x∈where2)->qU full x (pd full x):=fun x hf hm=>hT x hf (hrg x hm) (Nat.le_trans (hex x hm) hsz)
 generalize pd full=g at *
 have hsr:jF rows<=1048576:=by omega
 have hwl:where2.length<=1048576:=by rw[aC,aC] at hss;omega
 have hcl9:cols.length<=1048576:=by unfold iH at hss;omega
 clear hT hex hss
 rcases hp with⟨rfl,hq⟩|⟨k1,hn,h2,h3,h4,hk⟩
 ·have hq:=hQ hq
  obtain⟨distinct,items,from_,where_,order,limit⟩:=q
  have hq:∀out:List Tok,out.length+(qC g (Query.mk distinct items from_ where_ order limit)).length<=1000000->Cl Tryz.prog 65 [.c (.ow 150 (out).length ((out).flatMap Tok.row) none),.ag (ar (Query.mk distinct items from_ where_ order limit).row),vb full] [] fun r _=>r = .c (.ow 150 (out++qC g (Query.mk distinct items from_ where_ order limit)).length ((out++qC g (Query.mk distinct items from_ where_ order limit)).flatMap Tok.row) none):=hq
  rw[ay] at hq
  rw[Stmt.row_mk,ay]
  simp only[lc]
  have e:oR g (Stmt.mk 1 (Query.mk distinct items from_ where_ order limit) table rows cols sets where2)=qC g (Query.mk distinct items from_ where_ order limit):=rfl
  rw[e] at hlen ⊢
  clear e
  refine ah ab false Tryz.func107 rfl (by kernel_rfl) ?_
  simp only[Tryz.f107,tt,seval]
  refine cZ (hq [] (by simp only[List.length_nil];omega)) ?_ ?_<;>simp only[tt,seval]
  refine⟨_,[],mt (l:=[]++qC g (Query.mk distinct items from_ where_ order limit)) (by simp),ai ?_⟩
  simp only[tt,seval]
 have hgR:∀x∈rows.flatMap ERow.l,qU full x (g x):=fun x hx=>hT2 x (h2 x hx) (.inl (.inl (.inr hx)))
 have hgT:∀x∈sets,qU full x (g x):=fun x hx=>hT2 x (h3 x hx) (.inl (.inr hx))
 have hgW:∀x∈where2,qU full x (g x):=fun x hx=>hT2 x (h4 x hx) (.inr hx)
 obtain⟨distinct,items,from_,where_,order,limit⟩:=q
 rw[Stmt.row_mk,ay]
 simp only[lc]
 rcases hk with⟨rfl,hl,h12⟩|⟨rfl,hl,hsl,hc⟩|rfl
 ·skip
  have e:oR g (Stmt.mk 2 (Query.mk distinct items from_ where_ order limit) table rows cols sets where2)=kT 23::kT 24::nT table::kT 25::bJ (io g rows) rows.length:=rfl
  rw[e] at hlen ⊢
  clear e
  refine ah ab false Tryz.func107 rfl (by kernel_rfl) ?_
  simp only[Tryz.f107,tt,seval]
  simp only[ll] at hlen
  apply dx 5 2 1
  case h1=>
   refine dDrawn.intro [] (iO [0,6,8,3,5,11,13,15,17,18]) (by kernel_rfl) ?_
   simp only[tt,seval]
   all_goals repeat' first|refine cj ?_ ?_|refine aO ?_ ?_
   all_goals
    refine cZ (bi 23 (by omega) (by omega)) ?_ ?_<;>simp only[tt,seval,kT,Tok.row]
   all_goals repeat' first|refine cj ?_ ?_|refine aO ?_ ?_
   all_goals
    refine cZ (bi 24 (by omega) (by omega)) ?_ ?_<;>simp only[tt,seval,kT,Tok.row]
   all_goals repeat' first|refine cj ?_ ?_|refine aO ?_ ?_
   all_goals
    refine cZ (cH table) ?_ ?_<;>simp only[tt,seval,nT,Tok.row]
   all_goals repeat' first|refine cj ?_ ?_|refine aO ?_ ?_
   all_goals
    refine cZ (bi 25 (by omega) (by omega)) ?_ ?_<;>simp only[tt,seval,kT,Tok.row]
   all_goals repeat' first|refine gE ?_ ?_|refine cK ?_ ?_|refine cL ?_ ?_
   all_goals
    refine⟨by kernel_rfl,⟨by simp only[maxLen];omega,by omega⟩,?_⟩
   all_goals exact⟨rfl,rfl,rfl,rfl,rfl⟩
  case h2=>
   intro f' hj0 hj1 hj2
   simp only[tt,seval,hj0,hj1,hj2]
   refine cZ (zL full rows g hsr hgR [(Tok.mk 1 (kw 23) 0),(Tok.mk 1 (kw 24) 0),(Tok.mk 2 table 0),(Tok.mk 1 (kw 25) 0)] (by simp only[ll];omega)) ?_ ?_<;>simp only[tt,seval,Tok.row]
   refine⟨_,[],mt (l:=[(Tok.mk 1 (kw 23) 0),(Tok.mk 1 (kw 24) 0),(Tok.mk 2 table 0),(Tok.mk 1 (kw 25) 0)]++bJ (io g rows) rows.length) (by rfl),ai ?_⟩
   simp only[tt,seval,Tok.row]
 ·skip
  have e:oR g (Stmt.mk 3 (Query.mk distinct items from_ where_ order limit) table rows cols sets where2)=kT 26::nT table::kT 27::(bJ (kX g cols sets) cols.length++vN g where2):=rfl
  rw[e] at hlen ⊢
  clear e
  refine ah ab false Tryz.func107 rfl (by kernel_rfl) ?_
  simp only[Tryz.f107,tt,seval]
  simp only[ll] at hlen
  apply dx 5 2 1
  case h1=>
   refine dDrawn.intro [] (iO [0,4,6,3,9,11,13,15,16]) (by kernel_rfl) ?_
   simp only[tt,seval]
   all_goals repeat' first|refine cj ?_ ?_|refine aO ?_ ?_
   all_goals
    refine cZ (bi 26 (by omega) (by omega)) ?_ ?_<;>simp only[tt,seval,kT,Tok.row]
   all_goals repeat' first|refine cj ?_ ?_|refine aO ?_ ?_
   all_goals
    refine cZ (cH table) ?_ ?_<;>simp only[tt,seval,nT,Tok.row]
   all_goals repeat' first|refine cj ?_ ?_|refine aO ?_ ?_
   all_goals
    refine cZ (bi 27 (by omega) (by omega)) ?_ ?_<;>simp only[tt,seval,kT,Tok.row]
   all_goals repeat' first|refine gE ?_ ?_|refine cK ?_ ?_|refine cL ?_ ?_
   all_goals
    refine⟨by kernel_rfl,⟨by simp only[maxLen];omega,by omega⟩,?_⟩
   all_goals exact⟨rfl,rfl,rfl,rfl,rfl⟩
  case h2=>
   intro f' hj0 hj1 hj2
   simp only[tt,seval]
   obtain⟨L1,hL1⟩:∃L1,L1=([(Tok.mk 1 (kw 26) 0),(Tok.mk 2 table 0),(Tok.mk 1 (kw 27) 0)]:List Tok):=⟨_,rfl⟩
   have hl1:L1.length=3:=by rw[hL1];rfl
   have hds:[(Tok.mk 1 (kw 26) 0),(Tok.mk 2 table 0),(Tok.mk 1 (kw 27) 0)].flatMap Tok.row=L1.flatMap Tok.row:=by rw[hL1]
   simp only[List.flatMap_cons,List.flatMap_nil,lc,Tok.row] at hds
   refine dLoop.gh [.ren 42 10072] ⟨by decide,by decide,?_⟩
   refine dLoop0.intro (fun f L p=>∃(i:Nat) (es:List Tok),f 6=vi i/\f 5 = .c (.s 10072 es.length)/\i<=cols.length/\es=L1++bJ (kX g cols sets) i/\L=[(10072,.arr 150 (es).length ((es).flatMap Tok.row) none),(2,.str [.v (.int .i64 3),.v (.bool distinct),.sl items.length (items.flatMap Item.row) none,.sl from_.length (from_.flatMap Source.row) none,.sl where_.length (where_.flatMap Expr.row) none,.sl order.length (order.flatMap SortKey.row) none,.v (.int .i64 limit),.v (.string table),.sl rows.length (rows.flatMap ERow.row) none,.sl cols.length (cols.flatMap srow) none,.sl sets.length (sets.flatMap Expr.row) none,.sl where2.length (where2.flatMap Expr.row) none])]/\p=none) (fun f _ _=>(cols.length-bq (f 6)).toNat) [(10072,.arr 150 (L1).length ((L1).flatMap Tok.row) none),(2,.str [.v (.int .i64 3),.v (.bool distinct),.sl items.length (items.flatMap Item.row) none,.sl from_.length (from_.flatMap Source.row) none,.sl where_.length (where_.flatMap Expr.row) none,.sl order.length (order.flatMap SortKey.row) none,.v (.int .i64 limit),.v (.string table),.sl rows.length (rows.flatMap ERow.row) none,.sl cols.length (cols.flatMap srow) none,.sl sets.length (sets.flatMap Expr.row) none,.sl where2.length (where2.flatMap Expr.row) none])] none ⟨?_,an _,?_⟩ ?_
   ·rw[<-hds,hl1]
    exact ac rfl (ac rfl (al _))
   ·simp only[tt,seval,hj0]
    exact⟨0,L1,rfl,by rw[hl1],by omega,(List.append_nil _).symm,rfl⟩
   rintro g' L p ⟨i,es,h6,h5,hi,hes0,rfl,rfl⟩
   simp only[tt,seval] at h6 h5
   simp only[tt,seval,h6,h5,hj1,hj2,Int.ofNat_lt]
   refine fun _=>aa (fun hlt=>?_) (fun hge=>?_)
   ·have hlt:i<cols.length:=by omega
    have hls:i<sets.length:=by omega
    have hst:=dA (kX g cols sets) i
    have hlt2:=iQ (kX g cols sets) hlt
    have hel:es.length=L1.length+(bJ (kX g cols sets) i).length:=by rw[hes0,aB]
    obtain⟨c,hc⟩:∃c,c=cols[i]:=⟨_,rfl⟩
    have hxc:cols[i]?=some c:=by rw[hc];exact az hlt
    obtain⟨e,he⟩:∃e,e=sets[i]:=⟨_,rfl⟩
    have hxs:sets[i]?=some e:=by rw[he];exact az hls
    have hel2:kX g cols sets i=oP i++([nT c,EU]++g e):=by rw[kX,dP hlt,dP hls,hc,he]
    rw[hel2] at hlt2
    have hge:∀out:List Tok,out.length+(g e).length<=1000000->Cl Tryz.prog 80 [.c (.ow 150 (out).length ((out).flatMap Tok.row) none),.ag (ar e.row),vb full] [] fun r _=>r = .c (.ow 150 (out++g e).length ((out++g e).flatMap Tok.row) none):=hgT e (by rw[he];exact aK hls)
    have i0:((0:Int)<=(i:Int))=True:=eq_true (by omega)
    have iC:((i:Int)<(cols.length:Int))=True:=eq_true (by omega)
    have iT:(i<cols.length)=True:=eq_true hlt
    have iS:(i<sets.length)=True:=eq_true hls
    have iS2:((i:Int)<(sets.length:Int))=True:=eq_true (by omega)
    refine aa (fun hc=>?_) (fun hc=>?_)
    ·have hcl:oP i=[(Tok.mk 5 ⟨#[44]⟩ 0)]:=if_pos (by omega)
     rw[hcl] at hlt2 hel2
     simp only[ll] at hlt2
     refine cZ (aU ⟨#[44]⟩) ?_ ?_<;>simp only[tt,seval,kT,gT,nT,iT,Tok.row]
     refine⟨by kernel_rfl,⟨by simp only[maxLen];(try simp only[ll] at *);omega,by (try simp only[ll] at *);omega⟩,?_⟩
     rw[dg (es),cO (es) (Tok.mk 5 ⟨#[44]⟩ 0)]
     apply eB 5 6 2 1
     case h1=>
      refine dDrawn.intro [72] (.take 0 (.take 1 (.take 2 (.take 3 (.take 4 (.take 5 (.take 10 (.take 12 (.take 15 (.br 6 (.br 7 (.br 8 (.br 9 (.take 11 (.take 13 (.take 14 (.br 16 (.take 17 .done) .nobr)))) (.br 11 (.take 13 (.br 9 (.take 14 (.br 16 (.take 17 .done) .nobr)) (.br 14 (.br 9 (.br 16 (.take 17 .done) .nobr) .nobr) .nobr))) .nobr)) (.br 11 (.take 13 (.br 8 (.br 9 (.take 14 (.br 16 (.take 17 .done) .nobr)) (.br 14 (.br 9 (.br 16 (.take 17 .done) .nobr) .nobr) .nobr)) (.br 14 (.br 8 (.br 9 (.br 16 (.take 17 .done) .nobr) .nobr) .nobr) .nobr))) .nobr)) (.br 11 (.take 13 (.br 7 (.br 8 (.br 9 (.take 14 (.br 16 (.take 17 .done) .nobr)) (.br 14 (.br 9 (.br 16 (.take 17 .done) .nobr) .nobr) .nobr)) (.br 14 (.br 8 (.br 9 (.br 16 (.take 17 .done) .nobr) .nobr) .nobr) .nobr)) (.br 14 (.br 7 (.br 8 (.br 9 (.br 16 (.take 17 .done) .nobr) .nobr) .nobr) .nobr) .nobr))) .nobr)) (.br 11 (.take 13 (.br 6 (.br 7 (.br 8 (.br 9 (.take 14 (.br 16 (.take 17 .done) .nobr)) (.br 14 (.br 9 (.br 16 (.take 17 .done) .nobr) .nobr) .nobr)) (.br 14 (.br 8 (.br 9 (.br 16 (.take 17 .done) .nobr) .nobr) .nobr) .nobr)) (.br 14 (.br 7 (.br 8 (.br 9 (.br 16 (.take 17 .done) .nobr) .nobr) .nobr) .nobr) .nobr)) (.br 14 (.br 6 (.br 7 (.br 8 (.br 9 (.br 16 (.take 17 .done) .nobr) .nobr) .nobr) .nobr) .nobr) .nobr))) .nobr))))))))))) (by kernel_rfl) ?_
      simp only[tt,seval]
      all_goals try simp only[tt,seval,h6,hj1,hj2,bP hxc eK,bP hxs aJ,i0,iC,iS2,srow,Expr.tk,aJ]
      all_goals repeat' first|refine cj ?_ ?_|refine aO ?_ ?_
      all_goals
       refine cZ (cH c) ?_ ?_<;>simp only[tt,seval,nT,Tok.row,bP hxs aJ,i0,iS2,Expr.tk,aJ]
      all_goals repeat' first|refine cj ?_ ?_|refine aO ?_ ?_
      all_goals
       refine cZ (aU ⟨#[61]⟩) ?_ ?_<;>simp only[tt,seval,gT,Tok.row,bP hxs aJ,i0,iS2,Expr.tk,aJ]
      all_goals repeat' first|refine gE ?_ ?_|refine cK ?_ ?_|refine cL ?_ ?_
      all_goals
       refine⟨by kernel_rfl,⟨by simp only[maxLen];(try simp only[ll] at *);omega,by (try simp only[ll] at *);omega⟩,?_⟩
       rw[ri (es++[(Tok.mk 5 ⟨#[44]⟩ 0)]),pe (es++[(Tok.mk 5 ⟨#[44]⟩ 0)]) (Tok.mk 2 c 0) (Tok.mk 5 ⟨#[61]⟩ 0)]
      all_goals repeat' first|refine cj ?_ ?_|refine aO ?_ ?_
      all_goals
       refine cZ (hge (es++[(Tok.mk 5 ⟨#[44]⟩ 0)]++[(Tok.mk 2 c 0),(Tok.mk 5 ⟨#[61]⟩ 0)]) (by (try simp only[ll] at *);omega)) ?_ ?_
       ·simp only[tt,seval]
        decide
       simp only[tt,seval,h6,hj1,hj2]
      all_goals exact⟨rfl,rfl,rfl,rfl,rfl,rfl⟩
     case h2=>
      intro f' hk0 hk1 hk2 hk3
      simp only[tt,seval,hk0,hk1]
      try rw[f5 i (by omega)]
      exact⟨[(10072,.arr 150 (es++[(Tok.mk 5 ⟨#[44]⟩ 0)]++[(Tok.mk 2 c 0),(Tok.mk 5 ⟨#[61]⟩ 0)]++g e).length ((es++[(Tok.mk 5 ⟨#[44]⟩ 0)]++[(Tok.mk 2 c 0),(Tok.mk 5 ⟨#[61]⟩ 0)]++g e).flatMap Tok.row) none),(2,.str [.v (.int .i64 3),.v (.bool distinct),.sl items.length (items.flatMap Item.row) none,.sl from_.length (from_.flatMap Source.row) none,.sl where_.length (where_.flatMap Expr.row) none,.sl order.length (order.flatMap SortKey.row) none,.v (.int .i64 limit),.v (.string table),.sl rows.length (rows.flatMap ERow.row) none,.sl cols.length (cols.flatMap srow) none,.sl sets.length (sets.flatMap Expr.row) none,.sl where2.length (where2.flatMap Expr.row) none])],none,ac rfl (ac rfl (al _)),an _,⟨i+1,es++[(Tok.mk 5 ⟨#[44]⟩ 0)]++[(Tok.mk 2 c 0),(Tok.mk 5 ⟨#[61]⟩ 0)]++g e,rfl,rfl,by omega,by rw[hst,hes0,hel2];simp [EU,nT,gT,b9],rfl,rfl⟩,by simp only[bq];omega⟩
    ·have hcl:oP i=[]:=if_neg (by omega)
     rw[hcl] at hlt2 hel2
     simp only[ll] at hlt2
     apply eB 5 6 2 1
     case h1=>
      refine dDrawn.intro [72] (.take 0 (.take 1 (.take 2 (.take 3 (.take 4 (.take 5 (.take 10 (.take 12 (.take 15 (.br 6 (.br 7 (.br 8 (.br 9 (.take 11 (.take 13 (.take 14 (.br 16 (.take 17 .done) .nobr)))) (.br 11 (.take 13 (.br 9 (.take 14 (.br 16 (.take 17 .done) .nobr)) (.br 14 (.br 9 (.br 16 (.take 17 .done) .nobr) .nobr) .nobr))) .nobr)) (.br 11 (.take 13 (.br 8 (.br 9 (.take 14 (.br 16 (.take 17 .done) .nobr)) (.br 14 (.br 9 (.br 16 (.take 17 .done) .nobr) .nobr) .nobr)) (.br 14 (.br 8 (.br 9 (.br 16 (.take 17 .done) .nobr) .nobr) .nobr) .nobr))) .nobr)) (.br 11 (.take 13 (.br 7 (.br 8 (.br 9 (.take 14 (.br 16 (.take 17 .done) .nobr)) (.br 14 (.br 9 (.br 16 (.take 17 .done) .nobr) .nobr) .nobr)) (.br 14 (.br 8 (.br 9 (.br 16 (.take 17 .done) .nobr) .nobr) .nobr) .nobr)) (.br 14 (.br 7 (.br 8 (.br 9 (.br 16 (.take 17 .done) .nobr) .nobr) .nobr) .nobr) .nobr))) .nobr)) (.br 11 (.take 13 (.br 6 (.br 7 (.br 8 (.br 9 (.take 14 (.br 16 (.take 17 .done) .nobr)) (.br 14 (.br 9 (.br 16 (.take 17 .done) .nobr) .nobr) .nobr)) (.br 14 (.br 8 (.br 9 (.br 16 (.take 17 .done) .nobr) .nobr) .nobr) .nobr)) (.br 14 (.br 7 (.br 8 (.br 9 (.br 16 (.take 17 .done) .nobr) .nobr) .nobr) .nobr) .nobr)) (.br 14 (.br 6 (.br 7 (.br 8 (.br 9 (.br 16 (.take 17 .done) .nobr) .nobr) .nobr) .nobr) .nobr) .nobr))) .nobr))))))))))) (by kernel_rfl) ?_
      simp only[tt,seval]
      all_goals try simp only[tt,seval,h6,h5,hj1,hj2,bP hxc eK,bP hxs aJ,i0,iC,iT,iS2,srow,Expr.tk,aJ]
      all_goals repeat' first|refine cj ?_ ?_|refine aO ?_ ?_
      all_goals
       refine cZ (cH c) ?_ ?_<;>simp only[tt,seval,nT,Tok.row,bP hxs aJ,i0,iS2,Expr.tk,aJ]
      all_goals repeat' first|refine cj ?_ ?_|refine aO ?_ ?_
      all_goals
       refine cZ (aU ⟨#[61]⟩) ?_ ?_<;>simp only[tt,seval,gT,Tok.row,bP hxs aJ,i0,iS2,Expr.tk,aJ]
      all_goals repeat' first|refine gE ?_ ?_|refine cK ?_ ?_|refine cL ?_ ?_
      all_goals
       refine⟨by kernel_rfl,⟨by simp only[maxLen];(try simp only[ll] at *);omega,by (try simp only[ll] at *);omega⟩,?_⟩
       rw[ri (es),pe (es) (Tok.mk 2 c 0) (Tok.mk 5 ⟨#[61]⟩ 0)]
      all_goals repeat' first|refine cj ?_ ?_|refine aO ?_ ?_
      all_goals
       refine cZ (hge (es++[(Tok.mk 2 c 0),(Tok.mk 5 ⟨#[61]⟩ 0)]) (by (try simp only[ll] at *);omega)) ?_ ?_
       ·simp only[tt,seval]
        decide
       simp only[tt,seval,h6,hj1,hj2]
      all_goals exact⟨rfl,rfl,rfl,rfl,rfl,rfl⟩
     case h2=>
      intro f' hk0 hk1 hk2 hk3
      simp only[tt,seval,hk0,hk1]
      try rw[f5 i (by omega)]
      exact⟨[(10072,.arr 150 (es++[(Tok.mk 2 c 0),(Tok.mk 5 ⟨#[61]⟩ 0)]++g e).length ((es++[(Tok.mk 2 c 0),(Tok.mk 5 ⟨#[61]⟩ 0)]++g e).flatMap Tok.row) none),(2,.str [.v (.int .i64 3),.v (.bool distinct),.sl items.length (items.flatMap Item.row) none,.sl from_.length (from_.flatMap Source.row) none,.sl where_.length (where_.flatMap Expr.row) none,.sl order.length (order.flatMap SortKey.row) none,.v (.int .i64 limit),.v (.string table),.sl rows.length (rows.flatMap ERow.row) none,.sl cols.length (cols.flatMap srow) none,.sl sets.length (sets.flatMap Expr.row) none,.sl where2.length (where2.flatMap Expr.row) none])],none,ac rfl (ac rfl (al _)),an _,⟨i+1,es++[(Tok.mk 2 c 0),(Tok.mk 5 ⟨#[61]⟩ 0)]++g e,rfl,rfl,by omega,by rw[hst,hes0,hel2];simp [EU,nT,gT,b9],rfl,rfl⟩,by simp only[bq];omega⟩
   have hie:i=cols.length:=by omega
   subst hie
   have hel:es.length=L1.length+(bJ (kX g cols sets) cols.length).length:=by rw[hes0,aB]
   refine cZ (mu full where2 g hwl hgW es (by (try simp only[ll] at *);omega)) ?_ ?_<;>simp only[tt,seval]
   refine⟨_,[],mt (l:=es++vN g where2) (by rw[hes0,hL1]),ai ?_⟩
   simp only[tt,seval]
 ·skip
  have e:oR g (Stmt.mk 4 (Query.mk distinct items from_ where_ order limit) table rows cols sets where2)=kT 28::kT 3::nT table::vN g where2:=rfl
  rw[e] at hlen ⊢
  clear e
  refine ah ab false Tryz.func107 rfl (by kernel_rfl) ?_
  simp only[Tryz.f107,tt,seval]
  simp only[ll] at hlen
  apply dx 5 2 1
  case h1=>
   refine dDrawn.intro [] (iO [0,6,8,3,5,11,13,15,16]) (by kernel_rfl) ?_
   simp only[tt,seval]
   all_goals repeat' first|refine cj ?_ ?_|refine aO ?_ ?_
   all_goals
    refine cZ (bi 28 (by omega) (by omega)) ?_ ?_<;>simp only[tt,seval,kT,Tok.row]
   all_goals repeat' first|refine cj ?_ ?_|refine aO ?_ ?_
   all_goals
    refine cZ (bi 3 (by omega) (by omega)) ?_ ?_<;>simp only[tt,seval,kT,Tok.row]
   all_goals repeat' first|refine cj ?_ ?_|refine aO ?_ ?_
   all_goals
    refine cZ (cH table) ?_ ?_<;>simp only[tt,seval,nT,Tok.row]
   all_goals repeat' first|refine gE ?_ ?_|refine cK ?_ ?_|refine cL ?_ ?_
   all_goals
    refine⟨by kernel_rfl,⟨by simp only[maxLen];omega,by omega⟩,?_⟩
   all_goals exact⟨rfl,rfl,rfl,rfl,rfl⟩
  case h2=>
   intro f' hj0 hj1 hj2
   simp only[tt,seval,hj0,hj1,hj2]
   refine cZ (mu full where2 g hwl hgW [(Tok.mk 1 (kw 28) 0),(Tok.mk 1 (kw 3) 0),(Tok.mk 2 table 0)] (by simp only[ll];omega)) ?_ ?_<;>simp only[tt,seval,Tok.row]
   refine⟨_,[],mt (l:=[(Tok.mk 1 (kw 28) 0),(Tok.mk 1 (kw 3) 0),(Tok.mk 2 table 0)]++vN g where2) (by rfl),ai ?_⟩
   simp only[tt,seval,Tok.row]
end Go.Proofs.YtbodcedhmccenaaGreatDoor
