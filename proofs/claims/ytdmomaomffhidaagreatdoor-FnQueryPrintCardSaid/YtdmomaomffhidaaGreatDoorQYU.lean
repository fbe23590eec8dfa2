/-
  Queries in order.
  Conditions: none.
-/
import Derived.Test.YtdmomaomffhidaaGreatDoorQYF1
set_option linter.unusedVariables false
set_option linter.unusedSimpArgs false
set_option linter.unusedSectionVars false
set_option linter.unnecessarySimpa false
set_option maxRecDepth 8000
namespace Go.Proofs.YtdmomaomffhidaaGreatDoor
open Go Go.Dv
open Go.Vc (D dm dq cV bq)
theorem mV (q:Query) (g:Expr->Nat) (h:∀x∈exprsQ q,Cl Tryz.prog 101 [.ag (aw x.row)] [] fun r _=>r=vi (g x:Nat)) (hsz:szQuery q<=1048576) (hs:((exprsQ q).map g).sum<=2097152):Cl Tryz.prog 41 [.ag (aw q.row)] [] fun r _=>r=vi (((exprsQ q).map g).sum:Nat):=by
 have hlen:=fj q
 obtain⟨distinct,items,from_,where_,order,limit⟩:=q
 rw[aG]
 refine ai ac false Tryz.func41 rfl ae ?_
 simp only[Tryz.f41,tt,seval]
 refine cZ (pH distinct items from_ where_ order limit hsz) ?_ ?_<;>simp only[tt,seval,aG]
 generalize exprsQ (Query.mk distinct items from_ where_ order limit)=l at *
 refine dLoop.intro (fun f L p=>∃i:Nat,f 5=vi i/\i<=l.length/\f 3=vi (((l.take i).map g).sum:Nat)/\L=[(1,.str [.v (.bool distinct),.sl items.length (items.flatMap Item.row) none,.sl from_.length (from_.flatMap Source.row) none,.sl where_.length (where_.flatMap Expr.row) none,.sl order.length (order.flatMap SortKey.row) none,.v (.int .i64 limit)])]/\p=none) (fun f _ _=>(l.length-fH (f 5)).toNat) [(1,.str [.v (.bool distinct),.sl items.length (items.flatMap Item.row) none,.sl from_.length (from_.flatMap Source.row) none,.sl where_.length (where_.flatMap Expr.row) none,.sl order.length (order.flatMap SortKey.row) none,.v (.int .i64 limit)])] none ⟨ak rfl (ap _),au _,?_⟩ ?_
 ·simp only[tt,seval]
  exact⟨0,rfl,aa,by simp⟩
 ·rintro g' L p ⟨i,hix,hi,hac,rfl,rfl⟩
  simp only[tt,seval] at hix hac
  simp only[tt,seval,hix,hac,Int.ofNat_lt]
  refine fun _=>?_
  refine ab (fun hlt=>?_) (fun hge=>?_)
  ·have hlt:i<l.length:=by omega
   have hmem:l[i]∈l:=aM hlt
   refine⟨aa,aa,_,aI aJ (aC hlt),Expr.ne _ _,?_⟩
   simp only[seval,Expr.tk,aJ]
   refine cZ (h _ hmem) ?_ ?_<;>simp only[tt,seval,hix]
   obtain⟨rst,hrst⟩:=gK g l (i+1)
   rw[eR i aa]
   have hstep:((l.take (i+1)).map g).sum=((l.take i).map g).sum+g l[i]:=md g hlt
   rw[aE aa aa]
   skip
   exact⟨_,none,ak rfl (ap _),au _,⟨i+1,rfl,aa,kX (by rw[hstep];omega),rfl,rfl⟩,az⟩
  ·have hie:i=l.length:=by omega
   subst hie
   rw[List.take_length] at hac
   try rw[List.take_length]
   exact⟨_,_,rfl,ao rfl⟩
theorem tg (kind op:Int) (not:Bool) (val:Val) (qual name:ByteArray) (kids:List Expr) (sub:List Query) (g:Expr->Nat) (hg:∀x,eX x (Expr.mk kind op not val qual name kids sub)->(Cl Tryz.prog 101 [.ag (aw x.row)] [] fun r _=>r=vi (g x:Nat))/\g x<=szExpr x+1) (hsz:szExpr (Expr.mk kind op not val qual name kids sub)<=1048576):Cl Tryz.prog 101 [.ag (aw (Expr.mk kind op not val qual name kids sub).row)] [] fun r _=>r=vi (Ab g (Expr.mk kind op not val qual name kids sub):Nat):=by
 have hdl:=Ad (g:=g) (fun x hx=>(hg x hx).2)
 have hks:=hsz
 rw[bh,aP,bO] at hks
 have e:Ab g (Expr.mk kind op not val qual name kids sub)=1+(kids.map g).sum+(sub.map fun q=>((exprsQ q).map g).sum).sum:=rfl
 rw[e] at hdl ⊢
 rw[am]
 refine ai ac false Tryz.func101 rfl ae ?_
 simp only[Tryz.f101,tt,seval]
 refine dLoop.intro (fun f L p=>∃i:Nat,f 4=vi i/\i<=kids.length/\f 3=vi ((1+((kids.take i).map g).sum):Nat)/\L=[(1,.str [.v (.int .i64 kind),.v (.int .i64 op),.v (.bool not),.v (.int .i64 val.kind),.v (.int .i64 val.num),.v (.string val.text),.v (.string qual),.v (.string name),.sl kids.length (kids.flatMap Expr.row) none,.sl sub.length (sub.flatMap Query.row) none])]/\p=none) (fun f _ _=>(kids.length-fH (f 4)).toNat) [(1,.str [.v (.int .i64 kind),.v (.int .i64 op),.v (.bool not),.v (.int .i64 val.kind),.v (.int .i64 val.num),.v (.string val.text),.v (.string qual),.v (.string name),.sl kids.length (kids.flatMap Expr.row) none,.sl sub.length (sub.flatMap Query.row) none])] none ⟨ak rfl (ap _),au _,?_⟩ ?_
 ·simp only[tt,seval]
  exact⟨0,rfl,aa,by simp⟩
 ·rintro g' L p ⟨i,hix,hi,hac,rfl,rfl⟩
  simp only[tt,seval] at hix hac
  simp only[tt,seval,hix,hac,Int.ofNat_lt]
  refine fun _=>?_
  refine ab (fun hlt=>?_) (fun hge=>?_)
  ·have hlt:i<kids.length:=by omega
   have hmem:kids[i]∈kids:=aM hlt
   refine⟨aa,aa,_,aI aJ (aC hlt),Expr.ne _ _,?_⟩
   simp only[seval,Expr.tk,aJ]
   refine cZ ((hg _ (.inl hmem)).1) ?_ ?_<;>simp only[tt,seval,hix]
   obtain⟨rst,hrst⟩:=gK g kids (i+1)
   rw[eR i aa]
   have hstep:((kids.take (i+1)).map g).sum=((kids.take i).map g).sum+g kids[i]:=md g hlt
   rw[aE aa aa]
   skip
   exact⟨_,none,ak rfl (ap _),au _,⟨i+1,rfl,aa,kX (by rw[hstep];omega),rfl,rfl⟩,az⟩
  ·have hie:i=kids.length:=by omega
   subst hie
   rw[List.take_length] at hac
   refine dLoop.intro (fun f L p=>∃i:Nat,f 5=vi i/\i<=sub.length/\f 3=vi ((1+(kids.map g).sum+((sub.take i).map fun q=>((exprsQ q).map g).sum).sum):Nat)/\L=[(1,.str [.v (.int .i64 kind),.v (.int .i64 op),.v (.bool not),.v (.int .i64 val.kind),.v (.int .i64 val.num),.v (.string val.text),.v (.string qual),.v (.string name),.sl kids.length (kids.flatMap Expr.row) none,.sl sub.length (sub.flatMap Query.row) none])]/\p=none) (fun f _ _=>(sub.length-fH (f 5)).toNat) [(1,.str [.v (.int .i64 kind),.v (.int .i64 op),.v (.bool not),.v (.int .i64 val.kind),.v (.int .i64 val.num),.v (.string val.text),.v (.string qual),.v (.string name),.sl kids.length (kids.flatMap Expr.row) none,.sl sub.length (sub.flatMap Query.row) none])] none ⟨ak rfl (ap _),au _,?_⟩ ?_
   ·simp only[tt,seval,hac]
    exact⟨0,rfl,aa,by simp⟩
   ·rintro g' L p ⟨i,hix,hi,hac,rfl,rfl⟩
    simp only[tt,seval] at hix hac
    simp only[tt,seval,hix,hac,Int.ofNat_lt]
    refine fun _=>?_
    refine ab (fun hlt=>?_) (fun hge=>?_)
    ·have hlt:i<sub.length:=by omega
     have hmem:sub[i]∈sub:=aM hlt
     refine⟨aa,aa,_,aI Query.row_len (aC hlt),Query.ne _ _,?_⟩
     simp only[seval,Query.tk,Query.row_len]
     obtain⟨rst,hrst⟩:=gK (fun q=>((exprsQ q).map g).sum) sub (i+1)
     have hstep:((sub.take (i+1)).map fun q=>((exprsQ q).map g).sum).sum=((sub.take i).map fun q=>((exprsQ q).map g).sum).sum+((exprsQ sub[i]).map g).sum:=md _ hlt
     refine cZ (mV sub[i] g (fun x hx=>(hg x (.inr ⟨_,hmem,hx⟩)).1) (Nat.le_trans (lH (e:=(Expr.mk kind op not val qual name kids sub)) hmem) hsz) aa) ?_ ?_<;>simp only[tt,seval,hix]
     rw[eR i aa]
     rw[aE aa aa]
     skip
     exact⟨_,none,ak rfl (ap _),au _,⟨i+1,rfl,aa,kX (by rw[hstep];omega),rfl,rfl⟩,az⟩
    ·have hie:i=sub.length:=by omega
     subst hie
     rw[List.take_length] at hac
     try rw[List.take_length]
     exact⟨_,_,rfl,ao rfl⟩
theorem yT (e:Expr):(szExpr e<=1048576->Cl Tryz.prog 101 [.ag (aw e.row)] [] fun r _=>r=vi (ndE e:Nat))/\ndE e<=szExpr e+1:=by
 refine iF (P:=fun e d=>(szExpr e<=1048576->Cl Tryz.prog 101 [.ag (aw e.row)] [] fun r _=>r=vi (d:Nat))/\d<=szExpr e+1) (fun e g hg=>⟨fun hsz=>?_,Ad fun x hx=>(hg x hx).2⟩) e
 obtain⟨kind,op,not,val,qual,name,kids,sub⟩:=e
 exact tg kind op not val qual name kids sub g (fun x hx=>⟨(hg x hx).1 (Nat.le_trans (gN hx) hsz),(hg x hx).2⟩) hsz
noncomputable def gU (q:Query):Bool:=iK fmE q&&(decide (bR ((exprsQ q).map dpE)<=24)&&decide (((exprsQ q).map ndE).sum<=200))
theorem ue (q:Query) (hsz:szQuery q<=1048576):Cl Tryz.prog 10 [.ag (aw q.row)] [] fun r _=>r=vb (gU q):=by
 have hx:∀x∈exprsQ q,szExpr x<=1048576:=fun x hx=>Nat.le_trans (iE hx) hsz
 have hsum:=nL q
 have hs2:((exprsQ q).map ndE).sum<=2097152:=by
  have:=pI (l:=exprsQ q) (f:=ndE) (g:=fun x=>szExpr x+1) fun x _=>(s9 x).2
  omega
 have c1:=mh q fmE (fun x h=>Br x (hx x h)) hsz
 have c2:=xb q dpE (fun x h=>(Bo x).1 (hx x h)) hsz
 have c3:=mV q ndE (fun x h=>(yT x).1 (hx x h)) hsz hs2
 unfold gU
 generalize bR ((exprsQ q).map dpE)=dp at *
 generalize ((exprsQ q).map ndE).sum=nn at *
 generalize iK fmE q=fq at *
 obtain⟨distinct,items,from_,where_,order,limit⟩:=q
 rw[aG] at c1 c2 c3 ⊢
 refine ai ac false Tryz.func10 rfl ae ?_
 simp only[Tryz.f10,tt,seval]
 refine cZ (c1) ?_ ?_<;>simp only[tt,seval]
 cases fq
 case false=>
  simp only[tt,seval]
  exact⟨_,_,rfl,ao rfl⟩
 simp only[tt,seval]
 refine cZ (c2) ?_ ?_<;>simp only[tt,seval]
 by_cases h1:(dp:Int)<=24
 case neg=>
  simp only[tt,seval,aB h1]
  exact⟨_,_,aT (by rw[aB (show ¬dp<=24 by omega)];rfl),ao rfl⟩
 simp only[tt,seval,ax h1]
 refine cZ (c3) ?_ ?_<;>simp only[tt,seval]
 exact⟨_,_,aT (by rw[ax (show dp<=24 by omega)];exact decide_eq_decide.2 aa),ao rfl⟩
end Go.Proofs.YtdmomaomffhidaaGreatDoor
