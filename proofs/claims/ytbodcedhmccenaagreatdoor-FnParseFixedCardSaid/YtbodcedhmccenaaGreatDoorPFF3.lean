/-
  Queries and statements in order.
  Conditions: none.
-/
import Derived.Test.YtbodcedhmccenaaGreatDoorPFF1
set_option linter.unusedVariables false
set_option linter.unusedSimpArgs false
set_option linter.unusedSectionVars false
set_option maxRecDepth 8000
namespace Go.Proofs.YtbodcedhmccenaaGreatDoor
open Go Go.Dv
open Go.Vc (D dg dh cX bk)
theorem mL (q:Query) (g:Expr->Nat) (h:∀x∈exprsQ q,Cl Tryz.prog 199 [.ag (ar x.row)] [] fun r _=>r=vi (g x:Nat)) (hsz:szQuery q<=1048576) (hs:((exprsQ q).map g).sum<=2097152):Cl Tryz.prog 100 [.ag (ar q.row)] [] fun r _=>r=vi (((exprsQ q).map g).sum:Nat):=by
 have hlen:=fk q
 obtain⟨distinct,items,from_,where_,order,limit⟩:=q
 rw[aF]
 refine ai ac false Tryz.func100 rfl ae ?_
 simp only[Tryz.f100,tt,seval]
 refine cZ (pi distinct items from_ where_ order limit hsz) ?_ ?_<;>simp only[tt,seval,aF]
 generalize exprsQ (Query.mk distinct items from_ where_ order limit)=l at *
 refine dLoop.intro (fun f L p=>∃i:Nat,f 5=vi i/\i<=l.length/\f 3=vi (((l.take i).map g).sum:Nat)/\L=[(1,.str [.v (.bool distinct),.sl items.length (items.flatMap Item.row) none,.sl from_.length (from_.flatMap Source.row) none,.sl where_.length (where_.flatMap Expr.row) none,.sl order.length (order.flatMap SortKey.row) none,.v (.int .i64 limit)])]/\p=none) (fun f _ _=>(l.length-eH (f 5)).toNat) [(1,.str [.v (.bool distinct),.sl items.length (items.flatMap Item.row) none,.sl from_.length (from_.flatMap Source.row) none,.sl where_.length (where_.flatMap Expr.row) none,.sl order.length (order.flatMap SortKey.row) none,.v (.int .i64 limit)])] none ⟨ak rfl (ao _),aq _,?_⟩ ?_
 ·simp only[tt,seval]
  exact⟨0,rfl,aa,by simp⟩
 ·rintro g' L p ⟨i,hix,hi,hac,rfl,rfl⟩
  simp only[tt,seval] at hix hac
  simp only[tt,seval,hix,hac,Int.ofNat_lt]
  refine fun _=>?_
  refine ab (fun hlt=>?_) (fun hge=>?_)
  ·have hlt:i<l.length:=by omega
   have hmem:l[i]∈l:=aO hlt
   refine⟨aa,aa,_,aH aQ (aD hlt),Expr.ne _ _,?_⟩
   simp only[seval,Expr.tk,aQ]
   refine cZ (h _ hmem) ?_ ?_<;>simp only[tt,seval,hix]
   obtain⟨rst,hrst⟩:=gz g l (i+1)
   rw[eS i aa]
   have hstep:((l.take (i+1)).map g).sum=((l.take i).map g).sum+g l[i]:=lS g hlt
   rw[ax aa aa]
   skip
   exact⟨_,none,ak rfl (ao _),aq _,⟨i+1,rfl,aa,iU (by rw[hstep];omega),rfl,rfl⟩,aB⟩
  ·have hie:i=l.length:=by omega
   subst hie
   rw[List.take_length] at hac
   try rw[List.take_length]
   exact⟨_,_,rfl,ap rfl⟩
theorem sF (kind op:Int) (not:Bool) (val:Val) (qual name:ByteArray) (kids:List Expr) (sub:List Query) (g:Expr->Nat) (hg:∀x,f6 x (Expr.mk kind op not val qual name kids sub)->(Cl Tryz.prog 199 [.ag (ar x.row)] [] fun r _=>r=vi (g x:Nat))/\g x<=szExpr x+1) (hsz:szExpr (Expr.mk kind op not val qual name kids sub)<=1048576):Cl Tryz.prog 199 [.ag (ar (Expr.mk kind op not val qual name kids sub).row)] [] fun r _=>r=vi (zU g (Expr.mk kind op not val qual name kids sub):Nat):=by
 have hdl:=zX (g:=g) (fun x hx=>(hg x hx).2)
 have hks:=hsz
 rw[cL,aT,bT] at hks
 have e:zU g (Expr.mk kind op not val qual name kids sub)=1+(kids.map g).sum+(sub.map fun q=>((exprsQ q).map g).sum).sum:=rfl
 rw[e] at hdl ⊢
 rw[al]
 refine ai ac false Tryz.func199 rfl ae ?_
 simp only[Tryz.f199,tt,seval]
 refine dLoop.intro (fun f L p=>∃i:Nat,f 4=vi i/\i<=kids.length/\f 3=vi ((1+((kids.take i).map g).sum):Nat)/\L=[(1,.str [.v (.int .i64 kind),.v (.int .i64 op),.v (.bool not),.v (.int .i64 val.kind),.v (.int .i64 val.num),.v (.string val.text),.v (.string qual),.v (.string name),.sl kids.length (kids.flatMap Expr.row) none,.sl sub.length (sub.flatMap Query.row) none])]/\p=none) (fun f _ _=>(kids.length-eH (f 4)).toNat) [(1,.str [.v (.int .i64 kind),.v (.int .i64 op),.v (.bool not),.v (.int .i64 val.kind),.v (.int .i64 val.num),.v (.string val.text),.v (.string qual),.v (.string name),.sl kids.length (kids.flatMap Expr.row) none,.sl sub.length (sub.flatMap Query.row) none])] none ⟨ak rfl (ao _),aq _,?_⟩ ?_
 ·simp only[tt,seval]
  exact⟨0,rfl,aa,by simp⟩
 ·rintro g' L p ⟨i,hix,hi,hac,rfl,rfl⟩
  simp only[tt,seval] at hix hac
  simp only[tt,seval,hix,hac,Int.ofNat_lt]
  refine fun _=>?_
  refine ab (fun hlt=>?_) (fun hge=>?_)
  ·have hlt:i<kids.length:=by omega
   have hmem:kids[i]∈kids:=aO hlt
   refine⟨aa,aa,_,aH aQ (aD hlt),Expr.ne _ _,?_⟩
   simp only[seval,Expr.tk,aQ]
   refine cZ ((hg _ (.inl hmem)).1) ?_ ?_<;>simp only[tt,seval,hix]
   obtain⟨rst,hrst⟩:=gz g kids (i+1)
   rw[eS i aa]
   have hstep:((kids.take (i+1)).map g).sum=((kids.take i).map g).sum+g kids[i]:=lS g hlt
   rw[ax aa aa]
   skip
   exact⟨_,none,ak rfl (ao _),aq _,⟨i+1,rfl,aa,iU (by rw[hstep];omega),rfl,rfl⟩,aB⟩
  ·have hie:i=kids.length:=by omega
   subst hie
   rw[List.take_length] at hac
   refine dLoop.intro (fun f L p=>∃i:Nat,f 5=vi i/\i<=sub.length/\f 3=vi ((1+(kids.map g).sum+((sub.take i).map fun q=>((exprsQ q).map g).sum).sum):Nat)/\L=[(1,.str [.v (.int .i64 kind),.v (.int .i64 op),.v (.bool not),.v (.int .i64 val.kind),.v (.int .i64 val.num),.v (.string val.text),.v (.string qual),.v (.string name),.sl kids.length (kids.flatMap Expr.row) none,.sl sub.length (sub.flatMap Query.row) none])]/\p=none) (fun f _ _=>(sub.length-eH (f 5)).toNat) [(1,.str [.v (.int .i64 kind),.v (.int .i64 op),.v (.bool not),.v (.int .i64 val.kind),.v (.int .i64 val.num),.v (.string val.text),.v (.string qual),.v (.string name),.sl kids.length (kids.flatMap Expr.row) none,.sl sub.length (sub.flatMap Query.row) none])] none ⟨ak rfl (ao _),aq _,?_⟩ ?_
   ·simp only[tt,seval,hac]
    exact⟨0,rfl,aa,by simp⟩
   ·rintro g' L p ⟨i,hix,hi,hac,rfl,rfl⟩
    simp only[tt,seval] at hix hac
    simp only[tt,seval,hix,hac,Int.ofNat_lt]
    refine fun _=>?_
    refine ab (fun hlt=>?_) (fun hge=>?_)
    ·have hlt:i<sub.length:=by omega
     have hmem:sub[i]∈sub:=aO hlt
     refine⟨aa,aa,_,aH Query.row_len (aD hlt),Query.ne _ _,?_⟩
     simp only[seval,Query.tk,Query.row_len]
     obtain⟨rst,hrst⟩:=gz (fun q=>((exprsQ q).map g).sum) sub (i+1)
     have hstep:((sub.take (i+1)).map fun q=>((exprsQ q).map g).sum).sum=((sub.take i).map fun q=>((exprsQ q).map g).sum).sum+((exprsQ sub[i]).map g).sum:=lS _ hlt
     refine cZ (mL sub[i] g (fun x hx=>(hg x (.inr ⟨_,hmem,hx⟩)).1) (Nat.le_trans (lf (e:=(Expr.mk kind op not val qual name kids sub)) hmem) hsz) aa) ?_ ?_<;>simp only[tt,seval,hix]
     rw[eS i aa]
     rw[ax aa aa]
     skip
     exact⟨_,none,ak rfl (ao _),aq _,⟨i+1,rfl,aa,iU (by rw[hstep];omega),rfl,rfl⟩,aB⟩
    ·have hie:i=sub.length:=by omega
     subst hie
     rw[List.take_length] at hac
     try rw[List.take_length]
     exact⟨_,_,rfl,ap rfl⟩
theorem yu (e:Expr):(szExpr e<=1048576->Cl Tryz.prog 199 [.ag (ar e.row)] [] fun r _=>r=vi (ndE e:Nat))/\ndE e<=szExpr e+1:=by
 refine hD (P:=fun e d=>(szExpr e<=1048576->Cl Tryz.prog 199 [.ag (ar e.row)] [] fun r _=>r=vi (d:Nat))/\d<=szExpr e+1) (fun e g hg=>⟨fun hsz=>?_,zX fun x hx=>(hg x hx).2⟩) e
 obtain⟨kind,op,not,val,qual,name,kids,sub⟩:=e
 exact sF kind op not val qual name kids sub g (fun x hx=>⟨(hg x hx).1 (Nat.le_trans (gD hx) hsz),(hg x hx).2⟩) hsz
noncomputable def fD (q:Query):Bool:=hZ fmE q&&(decide (bY ((exprsQ q).map dpE)<=24)&&decide (((exprsQ q).map ndE).sum<=200))
theorem Bh (q:Query) (hsz:szQuery q<=1048576):Cl Tryz.prog 39 [.ag (ar q.row)] [] fun r _=>r=vb (fD q):=by
 have hx:∀x∈exprsQ q,szExpr x<=1048576:=fun x hx=>Nat.le_trans (gZ hx) hsz
 have hsum:=nt q
 have hs2:((exprsQ q).map ndE).sum<=2097152:=by
  have:=pj (l:=exprsQ q) (f:=ndE) (g:=fun x=>szExpr x+1) fun x _=>(rD x).2
  omega
 have c1:=lV q fmE (fun x h=>Bd x (hx x h)) hsz
 have c2:=wS q dpE (fun x h=>(Ba x).1 (hx x h)) hsz
 have c3:=mL q ndE (fun x h=>(yu x).1 (hx x h)) hsz hs2
 unfold fD
 generalize bY ((exprsQ q).map dpE)=dp at *
 generalize ((exprsQ q).map ndE).sum=nn at *
 generalize hZ fmE q=fq at *
 obtain⟨distinct,items,from_,where_,order,limit⟩:=q
 rw[aF] at c1 c2 c3 ⊢
 refine ai ac false Tryz.func39 rfl ae ?_
 simp only[Tryz.f39,tt,seval]
 refine cZ (c1) ?_ ?_<;>simp only[tt,seval]
 cases fq
 case false=>
  simp only[tt,seval]
  exact⟨_,_,rfl,ap rfl⟩
 simp only[tt,seval]
 refine cZ (c2) ?_ ?_<;>simp only[tt,seval]
 by_cases h1:(dp:Int)<=24
 case neg=>
  simp only[tt,seval,au h1]
  exact⟨_,_,aU (by rw[au (show ¬dp<=24 by omega)];rfl),ap rfl⟩
 simp only[tt,seval,az h1]
 refine cZ (c3) ?_ ?_<;>simp only[tt,seval]
 exact⟨_,_,aU (by rw[az (show dp<=24 by omega)];exact decide_eq_decide.2 aa),ap rfl⟩
end Go.Proofs.YtbodcedhmccenaaGreatDoor
