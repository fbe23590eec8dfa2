/-
  Trees in order, second half.
  Conditions: none.
-/
import Derived.Test.YteffjmaadkkmeaaGreatDoorRPF1
set_option linter.unusedVariables false
set_option linter.unusedSimpArgs false
set_option linter.unusedSectionVars false
set_option maxRecDepth 8000
namespace Go.Proofs.YteffjmaadkkmeaaGreatDoor
open Go Go.Dv
open Go.Vc (D cY d3 cN bk)
set_option maxHeartbeats 4000000 in
theorem qZ (kind op:Int) (not:Bool) (val:Val) (qual name:ByteArray) (kids:List Expr) (sub:List Query) (g:Expr->Bool) (hkids:∀x∈kids,Cl Tryz.prog 127 [.ag (av x.row)] [] fun r _=>r=vb (g x)) (hsub:∀q∈sub,Cl Tryz.prog 133 [.ag (av q.row)] [] fun r _=>r=vb (eZ g q)) (hkl:kids.length<=1048576) (hsl:sub.length<=1048576):Cl Tryz.prog 127 [.ag (av (Expr.mk kind op not val qual name kids sub).row)] [] fun r _=>r=vb (wt g (Expr.mk kind op not val qual name kids sub)):=by
 obtain⟨zb,hzb⟩:∃zb,zb=wt g (Expr.mk kind op not val qual name kids sub):=⟨_,rfl⟩
 rw[<-hzb,ah]
 refine ae ab false Tryz.func127 rfl (by kernel_rfl) ?_
 simp only[Tryz.f127,tt,seval]
 obtain⟨nk,hnk⟩:∃nk:Int,nk=kids.length:=⟨_,rfl⟩
 obtain⟨ns,hns⟩:∃ns:Int,ns=sub.length:=⟨_,rfl⟩
 rw[wt,aH,<-hnk,<-hns] at hzb
 rcases (show kind=1∨kind=2∨kind=3∨kind=4∨kind=5∨kind=6∨kind=7∨kind=8∨kind=9∨(kind<1∨9<kind) by omega) with rfl|rfl|rfl|rfl|rfl|rfl|rfl|rfl|rfl|hk
 ·try simp only[tt,seval]
  refine cZ (eM 1 op not val qual name kids sub) ?_ ?_<;>simp only[tt,seval,ah,dC,aX]
  generalize cD 1 op val qual name=okv at *
  cases hok:okv
  case false=>
   simp only[tt,seval]
   exact⟨_,_,aE (by rw[hzb];simp [aX,hok];try omega),ai rfl⟩
  simp only[tt,seval]
  by_cases ho:op=0
  case neg=>
   simp only[tt,seval,ho]
   exact⟨_,_,aE (by rw[hzb];simp [aX,hok,ho];try omega),ai rfl⟩
  simp only[tt,seval,ho]
  cases not
  case true=>
   simp only[tt,seval]
   exact⟨_,_,aE (by rw[hzb];simp [aX,hok,ho];try omega),ai rfl⟩
  simp only[tt,seval]
  by_cases hq:qual=⟨#[]⟩
  case neg=>
   simp only[tt,seval,hq]
   exact⟨_,_,aE (by rw[hzb];simp [aX,hok,ho,hq];try omega),ai rfl⟩
  simp only[tt,seval,hq]
  by_cases hn:name=⟨#[]⟩
  case neg=>
   simp only[tt,seval,hn]
   exact⟨_,_,aE (by rw[hzb];simp [aX,hok,ho,hq,hn];try omega),ai rfl⟩
  simp only[tt,seval,hn]
  refine fun _=>?_
  rw[<-hnk]
  by_cases hlo:nk<0
  case pos=>
   simp only[tt,seval,hlo]
   exact⟨_,_,aE (by rw[hzb];simp [aX,hok,ho,hq,hn];try omega),ai rfl⟩
  simp only[tt,seval,hlo]
  refine fun _=>?_
  try rw[<-hnk]
  by_cases hhi:0<nk
  case pos=>
   simp only[tt,seval,hhi]
   exact⟨_,_,aE (by rw[hzb];simp [aX,hok,ho,hq,hn];try omega),ai rfl⟩
  simp only[tt,seval,hhi]
  refine fun _=>?_
  try rw[<-hns]
  by_cases hns0:ns=0
  case neg=>
   simp only[tt,seval,hns0]
   exact⟨_,_,aE (by rw[hzb];simp [aX,hok,ho,hq,hn,hns0];try omega),ai rfl⟩
  simp only[tt,seval,hns0]
  refine cZ (cu kids g hkids) ?_ ?_<;>simp only[tt,seval]
  cases hka:kids.all g
  case false=>
   simp only[tt,seval]
   exact⟨_,_,aE (by rw[hzb];simp [aX,hok,ho,hq,hn,hns0,hka];try omega),ai rfl⟩
  simp only[tt,seval]
  refine cZ (d8 sub (eZ g) (fun q hq=>ny q (eZ g q) (hsub q hq))) ?_ ?_<;>simp only[tt,seval]
  cases hsa:sub.all (eZ g)
  case false=>
   simp only[tt,seval]
   exact⟨_,_,aE (by rw[hzb];simp [aX,hok,ho,hq,hn,hns0,hka,hsa];try omega),ai rfl⟩
  simp only[tt,seval]
  exact⟨_,_,aE (by rw[hzb];simp [aX,hok,ho,hq,hn,hns0,hka,hsa];try omega),ai rfl⟩
 ·try simp only[tt,seval]
  refine cZ (eM 2 op not val qual name kids sub) ?_ ?_<;>simp only[tt,seval,ah,dC,aX]
  generalize cD 2 op val qual name=okv at *
  cases hok:okv
  case false=>
   simp only[tt,seval]
   exact⟨_,_,aE (by rw[hzb];simp [aX,hok];try omega),ai rfl⟩
  simp only[tt,seval]
  by_cases ho:op=0
  case neg=>
   simp only[tt,seval,ho]
   exact⟨_,_,aE (by rw[hzb];simp [aX,hok,ho];try omega),ai rfl⟩
  simp only[tt,seval,ho]
  cases not
  case true=>
   simp only[tt,seval]
   exact⟨_,_,aE (by rw[hzb];simp [aX,hok,ho];try omega),ai rfl⟩
  simp only[tt,seval]
  rw[bX (by kernel_rfl) (ei val)]
  simp only[tt,seval]
  cases hv:zV val
  case false=>
   simp only[tt,seval]
   exact⟨_,_,aE (by rw[hzb];simp [aX,hok,ho,hv];try omega),ai rfl⟩
  simp only[tt,seval]
  refine fun _=>?_
  rw[<-hnk]
  by_cases hlo:nk<0
  case pos=>
   simp only[tt,seval,hlo]
   exact⟨_,_,aE (by rw[hzb];simp [aX,hok,ho,hv];try omega),ai rfl⟩
  simp only[tt,seval,hlo]
  refine fun _=>?_
  try rw[<-hnk]
  by_cases hhi:0<nk
  case pos=>
   simp only[tt,seval,hhi]
   exact⟨_,_,aE (by rw[hzb];simp [aX,hok,ho,hv];try omega),ai rfl⟩
  simp only[tt,seval,hhi]
  refine fun _=>?_
  try rw[<-hns]
  by_cases hns0:ns=0
  case neg=>
   simp only[tt,seval,hns0]
   exact⟨_,_,aE (by rw[hzb];simp [aX,hok,ho,hv,hns0];try omega),ai rfl⟩
  simp only[tt,seval,hns0]
  refine cZ (cu kids g hkids) ?_ ?_<;>simp only[tt,seval]
  cases hka:kids.all g
  case false=>
   simp only[tt,seval]
   exact⟨_,_,aE (by rw[hzb];simp [aX,hok,ho,hv,hns0,hka];try omega),ai rfl⟩
  simp only[tt,seval]
  refine cZ (d8 sub (eZ g) (fun q hq=>ny q (eZ g q) (hsub q hq))) ?_ ?_<;>simp only[tt,seval]
  cases hsa:sub.all (eZ g)
  case false=>
   simp only[tt,seval]
   exact⟨_,_,aE (by rw[hzb];simp [aX,hok,ho,hv,hns0,hka,hsa];try omega),ai rfl⟩
  simp only[tt,seval]
  exact⟨_,_,aE (by rw[hzb];simp [aX,hok,ho,hv,hns0,hka,hsa];try omega),ai rfl⟩
 ·try simp only[tt,seval]
  refine cZ (eM 3 op not val qual name kids sub) ?_ ?_<;>simp only[tt,seval,ah,dC,aX]
  generalize cD 3 op val qual name=okv at *
  cases hok:okv
  case false=>
   simp only[tt,seval]
   exact⟨_,_,aE (by rw[hzb];simp [aX,hok];try omega),ai rfl⟩
  simp only[tt,seval]
  cases not
  case true=>
   simp only[tt,seval]
   exact⟨_,_,aE (by rw[hzb];simp [aX,hok];try omega),ai rfl⟩
  simp only[tt,seval]
  rw[bX (by kernel_rfl) (ei val)]
  simp only[tt,seval]
  cases hv:zV val
  case false=>
   simp only[tt,seval]
   exact⟨_,_,aE (by rw[hzb];simp [aX,hok,hv];try omega),ai rfl⟩
  simp only[tt,seval]
  by_cases hq:qual=⟨#[]⟩
  case neg=>
   simp only[tt,seval,hq]
   exact⟨_,_,aE (by rw[hzb];simp [aX,hok,hv,hq];try omega),ai rfl⟩
  simp only[tt,seval,hq]
  by_cases hn:name=⟨#[]⟩
  case neg=>
   simp only[tt,seval,hn]
   exact⟨_,_,aE (by rw[hzb];simp [aX,hok,hv,hq,hn];try omega),ai rfl⟩
  simp only[tt,seval,hn]
  refine fun _=>?_
  rw[<-hnk]
  by_cases hlo:nk<1
  case pos=>
   simp only[tt,seval,hlo]
   exact⟨_,_,aE (by rw[hzb];simp [aX,hok,hv,hq,hn];try omega),ai rfl⟩
  simp only[tt,seval,hlo]
  refine fun _=>?_
  try rw[<-hnk]
  by_cases hhi:1<nk
  case pos=>
   simp only[tt,seval,hhi]
   exact⟨_,_,aE (by rw[hzb];simp [aX,hok,hv,hq,hn];try omega),ai rfl⟩
  simp only[tt,seval,hhi]
  refine fun _=>?_
  try rw[<-hns]
  by_cases hns0:ns=0
  case neg=>
   simp only[tt,seval,hns0]
   exact⟨_,_,aE (by rw[hzb];simp [aX,hok,hv,hq,hn,hns0];try omega),ai rfl⟩
  simp only[tt,seval,hns0]
  refine cZ (cu kids g hkids) ?_ ?_<;>simp only[tt,seval]
  cases hka:kids.all g
  case false=>
   simp only[tt,seval]
   exact⟨_,_,aE (by rw[hzb];simp [aX,hok,hv,hq,hn,hns0,hka];try omega),ai rfl⟩
  simp only[tt,seval]
  refine cZ (d8 sub (eZ g) (fun q hq=>ny q (eZ g q) (hsub q hq))) ?_ ?_<;>simp only[tt,seval]
  cases hsa:sub.all (eZ g)
  case false=>
   simp only[tt,seval]
   exact⟨_,_,aE (by rw[hzb];simp [aX,hok,hv,hq,hn,hns0,hka,hsa];try omega),ai rfl⟩
  simp only[tt,seval]
  exact⟨_,_,aE (by rw[hzb];simp [aX,hok,hv,hq,hn,hns0,hka,hsa];try omega),ai rfl⟩
 ·try simp only[tt,seval]
  refine cZ (eM 4 op not val qual name kids sub) ?_ ?_<;>simp only[tt,seval,ah,dC,aX]
  generalize cD 4 op val qual name=okv at *
  cases hok:okv
  case false=>
   simp only[tt,seval]
   exact⟨_,_,aE (by rw[hzb];simp [aX,hok];try omega),ai rfl⟩
  simp only[tt,seval]
  cases not
  case true=>
   simp only[tt,seval]
   exact⟨_,_,aE (by rw[hzb];simp [aX,hok];try omega),ai rfl⟩
  simp only[tt,seval]
  rw[bX (by kernel_rfl) (ei val)]
  simp only[tt,seval]
  cases hv:zV val
  case false=>
   simp only[tt,seval]
   exact⟨_,_,aE (by rw[hzb];simp [aX,hok,hv];try omega),ai rfl⟩
  simp only[tt,seval]
  by_cases hq:qual=⟨#[]⟩
  case neg=>
   simp only[tt,seval,hq]
   exact⟨_,_,aE (by rw[hzb];simp [aX,hok,hv,hq];try omega),ai rfl⟩
  simp only[tt,seval,hq]
  by_cases hn:name=⟨#[]⟩
  case neg=>
   simp only[tt,seval,hn]
   exact⟨_,_,aE (by rw[hzb];simp [aX,hok,hv,hq,hn];try omega),ai rfl⟩
  simp only[tt,seval,hn]
  refine fun _=>?_
  rw[<-hnk]
  by_cases hlo:nk<2
  case pos=>
   simp only[tt,seval,hlo]
   exact⟨_,_,aE (by rw[hzb];simp [aX,hok,hv,hq,hn];try omega),ai rfl⟩
  simp only[tt,seval,hlo]
  refine fun _=>?_
  try rw[<-hnk]
  by_cases hhi:2<nk
  case pos=>
   simp only[tt,seval,hhi]
   exact⟨_,_,aE (by rw[hzb];simp [aX,hok,hv,hq,hn];try omega),ai rfl⟩
  simp only[tt,seval,hhi]
  refine fun _=>?_
  try rw[<-hns]
  by_cases hns0:ns=0
  case neg=>
   simp only[tt,seval,hns0]
   exact⟨_,_,aE (by rw[hzb];simp [aX,hok,hv,hq,hn,hns0];try omega),ai rfl⟩
  simp only[tt,seval,hns0]
  refine cZ (cu kids g hkids) ?_ ?_<;>simp only[tt,seval]
  cases hka:kids.all g
  case false=>
   simp only[tt,seval]
   exact⟨_,_,aE (by rw[hzb];simp [aX,hok,hv,hq,hn,hns0,hka];try omega),ai rfl⟩
  simp only[tt,seval]
  refine cZ (d8 sub (eZ g) (fun q hq=>ny q (eZ g q) (hsub q hq))) ?_ ?_<;>simp only[tt,seval]
  cases hsa:sub.all (eZ g)
  case false=>
   simp only[tt,seval]
   exact⟨_,_,aE (by rw[hzb];simp [aX,hok,hv,hq,hn,hns0,hka,hsa];try omega),ai rfl⟩
  simp only[tt,seval]
  exact⟨_,_,aE (by rw[hzb];simp [aX,hok,hv,hq,hn,hns0,hka,hsa];try omega),ai rfl⟩
 ·try simp only[tt,seval]
  refine cZ (eM 5 op not val qual name kids sub) ?_ ?_<;>simp only[tt,seval,ah,dC,aX]
  generalize cD 5 op val qual name=okv at *
  cases hok:okv
  case false=>
   simp only[tt,seval]
   exact⟨_,_,aE (by rw[hzb];simp [aX,hok];try omega),ai rfl⟩
  simp only[tt,seval]
  by_cases ho:op=0
  case neg=>
   simp only[tt,seval,ho]
   exact⟨_,_,aE (by rw[hzb];simp [aX,hok,ho];try omega),ai rfl⟩
  simp only[tt,seval,ho]
  rw[bX (by kernel_rfl) (ei val)]
  simp only[tt,seval]
  cases hv:zV val
  case false=>
   simp only[tt,seval]
   exact⟨_,_,aE (by rw[hzb];simp [aX,hok,ho,hv];try omega),ai rfl⟩
  simp only[tt,seval]
  by_cases hq:qual=⟨#[]⟩
  case neg=>
   simp only[tt,seval,hq]
   exact⟨_,_,aE (by rw[hzb];simp [aX,hok,ho,hv,hq];try omega),ai rfl⟩
  simp only[tt,seval,hq]
  by_cases hn:name=⟨#[]⟩
  case neg=>
   simp only[tt,seval,hn]
   exact⟨_,_,aE (by rw[hzb];simp [aX,hok,ho,hv,hq,hn];try omega),ai rfl⟩
  simp only[tt,seval,hn]
  refine fun _=>?_
  rw[<-hnk]
  by_cases hlo:nk<1
  case pos=>
   simp only[tt,seval,hlo]
   exact⟨_,_,aE (by rw[hzb];simp [aX,hok,ho,hv,hq,hn];try omega),ai rfl⟩
  simp only[tt,seval,hlo]
  refine fun _=>?_
  try rw[<-hnk]
  by_cases hhi:1<nk
  case pos=>
   simp only[tt,seval,hhi]
   exact⟨_,_,aE (by rw[hzb];simp [aX,hok,ho,hv,hq,hn];try omega),ai rfl⟩
  simp only[tt,seval,hhi]
  refine fun _=>?_
  try rw[<-hns]
  by_cases hns0:ns=0
  case neg=>
   simp only[tt,seval,hns0]
   exact⟨_,_,aE (by rw[hzb];simp [aX,hok,ho,hv,hq,hn,hns0];try omega),ai rfl⟩
  simp only[tt,seval,hns0]
  refine cZ (cu kids g hkids) ?_ ?_<;>simp only[tt,seval]
  cases hka:kids.all g
  case false=>
   simp only[tt,seval]
   exact⟨_,_,aE (by rw[hzb];simp [aX,hok,ho,hv,hq,hn,hns0,hka];try omega),ai rfl⟩
  simp only[tt,seval]
  refine cZ (d8 sub (eZ g) (fun q hq=>ny q (eZ g q) (hsub q hq))) ?_ ?_<;>simp only[tt,seval]
  cases hsa:sub.all (eZ g)
  case false=>
   simp only[tt,seval]
   exact⟨_,_,aE (by rw[hzb];simp [aX,hok,ho,hv,hq,hn,hns0,hka,hsa];try omega),ai rfl⟩
  simp only[tt,seval]
  exact⟨_,_,aE (by rw[hzb];simp [aX,hok,ho,hv,hq,hn,hns0,hka,hsa];try omega),ai rfl⟩
 ·try simp only[tt,seval]
  refine cZ (eM 6 op not val qual name kids sub) ?_ ?_<;>simp only[tt,seval,ah,dC,aX]
  generalize cD 6 op val qual name=okv at *
  cases hok:okv
  case false=>
   simp only[tt,seval]
   exact⟨_,_,aE (by rw[hzb];simp [aX,hok];try omega),ai rfl⟩
  simp only[tt,seval]
  by_cases ho:op=0
  case neg=>
   simp only[tt,seval,ho]
   exact⟨_,_,aE (by rw[hzb];simp [aX,hok,ho];try omega),ai rfl⟩
  simp only[tt,seval,ho]
  rw[bX (by kernel_rfl) (ei val)]
  simp only[tt,seval]
  cases hv:zV val
  case false=>
   simp only[tt,seval]
   exact⟨_,_,aE (by rw[hzb];simp [aX,hok,ho,hv];try omega),ai rfl⟩
  simp only[tt,seval]
  by_cases hq:qual=⟨#[]⟩
  case neg=>
   simp only[tt,seval,hq]
   exact⟨_,_,aE (by rw[hzb];simp [aX,hok,ho,hv,hq];try omega),ai rfl⟩
  simp only[tt,seval,hq]
  by_cases hn:name=⟨#[]⟩
  case neg=>
   simp only[tt,seval,hn]
   exact⟨_,_,aE (by rw[hzb];simp [aX,hok,ho,hv,hq,hn];try omega),ai rfl⟩
  simp only[tt,seval,hn]
  refine fun _=>?_
  rw[<-hnk]
  by_cases hlo:nk<3
  case pos=>
   simp only[tt,seval,hlo]
   exact⟨_,_,aE (by rw[hzb];simp [aX,hok,ho,hv,hq,hn];try omega),ai rfl⟩
  simp only[tt,seval,hlo]
  refine fun _=>?_
  try rw[<-hnk]
  by_cases hhi:3<nk
  case pos=>
   simp only[tt,seval,hhi]
   exact⟨_,_,aE (by rw[hzb];simp [aX,hok,ho,hv,hq,hn];try omega),ai rfl⟩
  simp only[tt,seval,hhi]
  refine fun _=>?_
  try rw[<-hns]
  by_cases hns0:ns=0
  case neg=>
   simp only[tt,seval,hns0]
   exact⟨_,_,aE (by rw[hzb];simp [aX,hok,ho,hv,hq,hn,hns0];try omega),ai rfl⟩
  simp only[tt,seval,hns0]
  refine cZ (cu kids g hkids) ?_ ?_<;>simp only[tt,seval]
  cases hka:kids.all g
  case false=>
   simp only[tt,seval]
   exact⟨_,_,aE (by rw[hzb];simp [aX,hok,ho,hv,hq,hn,hns0,hka];try omega),ai rfl⟩
  simp only[tt,seval]
  refine cZ (d8 sub (eZ g) (fun q hq=>ny q (eZ g q) (hsub q hq))) ?_ ?_<;>simp only[tt,seval]
  cases hsa:sub.all (eZ g)
  case false=>
   simp only[tt,seval]
   exact⟨_,_,aE (by rw[hzb];simp [aX,hok,ho,hv,hq,hn,hns0,hka,hsa];try omega),ai rfl⟩
  simp only[tt,seval]
  exact⟨_,_,aE (by rw[hzb];simp [aX,hok,ho,hv,hq,hn,hns0,hka,hsa];try omega),ai rfl⟩
 ·try simp only[tt,seval]
  refine cZ (eM 7 op not val qual name kids sub) ?_ ?_<;>simp only[tt,seval,ah,dC,aX]
  generalize cD 7 op val qual name=okv at *
  cases hok:okv
  case false=>
   simp only[tt,seval]
   exact⟨_,_,aE (by rw[hzb];simp [aX,hok];try omega),ai rfl⟩
  simp only[tt,seval]
  by_cases ho:op=0
  case neg=>
   simp only[tt,seval,ho]
   exact⟨_,_,aE (by rw[hzb];simp [aX,hok,ho];try omega),ai rfl⟩
  simp only[tt,seval,ho]
  rw[bX (by kernel_rfl) (ei val)]
  simp only[tt,seval]
  cases hv:zV val
  case false=>
   simp only[tt,seval]
   exact⟨_,_,aE (by rw[hzb];simp [aX,hok,ho,hv];try omega),ai rfl⟩
  simp only[tt,seval]
  by_cases hq:qual=⟨#[]⟩
  case neg=>
   simp only[tt,seval,hq]
   exact⟨_,_,aE (by rw[hzb];simp [aX,hok,ho,hv,hq];try omega),ai rfl⟩
  simp only[tt,seval,hq]
  by_cases hn:name=⟨#[]⟩
  case neg=>
   simp only[tt,seval,hn]
   exact⟨_,_,aE (by rw[hzb];simp [aX,hok,ho,hv,hq,hn];try omega),ai rfl⟩
  simp only[tt,seval,hn]
  refine fun _=>?_
  rw[<-hnk]
  by_cases hlo:nk<2
  case pos=>
   simp only[tt,seval,hlo]
   exact⟨_,_,aE (by rw[hzb];simp [aX,hok,ho,hv,hq,hn];try omega),ai rfl⟩
  simp only[tt,seval,hlo]
  refine fun _=>?_
  try rw[<-hnk]
  by_cases hhi:9<nk
  case pos=>
   simp only[tt,seval,hhi]
   exact⟨_,_,aE (by rw[hzb];simp [aX,hok,ho,hv,hq,hn];try omega),ai rfl⟩
  simp only[tt,seval,hhi]
  refine fun _=>?_
  try rw[<-hns]
  by_cases hns0:ns=0
  case neg=>
   simp only[tt,seval,hns0]
   exact⟨_,_,aE (by rw[hzb];simp [aX,hok,ho,hv,hq,hn,hns0];try omega),ai rfl⟩
  simp only[tt,seval,hns0]
  refine cZ (cu kids g hkids) ?_ ?_<;>simp only[tt,seval]
  cases hka:kids.all g
  case false=>
   simp only[tt,seval]
   exact⟨_,_,aE (by rw[hzb];simp [aX,hok,ho,hv,hq,hn,hns0,hka];try omega),ai rfl⟩
  simp only[tt,seval]
  refine cZ (d8 sub (eZ g) (fun q hq=>ny q (eZ g q) (hsub q hq))) ?_ ?_<;>simp only[tt,seval]
  cases hsa:sub.all (eZ g)
  case false=>
   simp only[tt,seval]
   exact⟨_,_,aE (by rw[hzb];simp [aX,hok,ho,hv,hq,hn,hns0,hka,hsa];try omega),ai rfl⟩
  simp only[tt,seval]
  exact⟨_,_,aE (by rw[hzb];simp [aX,hok,ho,hv,hq,hn,hns0,hka,hsa];try omega),ai rfl⟩
 ·try simp only[tt,seval]
  refine cZ (eM 8 op not val qual name kids sub) ?_ ?_<;>simp only[tt,seval,ah,dC,aX]
  generalize cD 8 op val qual name=okv at *
  cases hok:okv
  case false=>
   simp only[tt,seval]
   exact⟨_,_,aE (by rw[hzb];simp [aX,hok];try omega),ai rfl⟩
  simp only[tt,seval]
  by_cases ho:op=0
  case neg=>
   simp only[tt,seval,ho]
   exact⟨_,_,aE (by rw[hzb];simp [aX,hok,ho];try omega),ai rfl⟩
  simp only[tt,seval,ho]
  rw[bX (by kernel_rfl) (ei val)]
  simp only[tt,seval]
  cases hv:zV val
  case false=>
   simp only[tt,seval]
   exact⟨_,_,aE (by rw[hzb];simp [aX,hok,ho,hv];try omega),ai rfl⟩
  simp only[tt,seval]
  by_cases hq:qual=⟨#[]⟩
  case neg=>
   simp only[tt,seval,hq]
   exact⟨_,_,aE (by rw[hzb];simp [aX,hok,ho,hv,hq];try omega),ai rfl⟩
  simp only[tt,seval,hq]
  by_cases hn:name=⟨#[]⟩
  case neg=>
   simp only[tt,seval,hn]
   exact⟨_,_,aE (by rw[hzb];simp [aX,hok,ho,hv,hq,hn];try omega),ai rfl⟩
  simp only[tt,seval,hn]
  refine fun _=>?_
  rw[<-hnk]
  by_cases hlo:nk<1
  case pos=>
   simp only[tt,seval,hlo]
   exact⟨_,_,aE (by rw[hzb];simp [aX,hok,ho,hv,hq,hn];try omega),ai rfl⟩
  simp only[tt,seval,hlo]
  refine fun _=>?_
  try rw[<-hnk]
  by_cases hhi:1<nk
  case pos=>
   simp only[tt,seval,hhi]
   exact⟨_,_,aE (by rw[hzb];simp [aX,hok,ho,hv,hq,hn];try omega),ai rfl⟩
  simp only[tt,seval,hhi]
  refine fun _=>?_
  try rw[<-hns]
  by_cases hns0:ns=1
  case neg=>
   simp only[tt,seval,hns0]
   exact⟨_,_,aE (by rw[hzb];simp [aX,hok,ho,hv,hq,hn,hns0];try omega),ai rfl⟩
  simp only[tt,seval,hns0]
  refine cZ (cu kids g hkids) ?_ ?_<;>simp only[tt,seval]
  cases hka:kids.all g
  case false=>
   simp only[tt,seval]
   exact⟨_,_,aE (by rw[hzb];simp [aX,hok,ho,hv,hq,hn,hns0,hka];try omega),ai rfl⟩
  simp only[tt,seval]
  refine cZ (d8 sub (eZ g) (fun q hq=>ny q (eZ g q) (hsub q hq))) ?_ ?_<;>simp only[tt,seval]
  cases hsa:sub.all (eZ g)
  case false=>
   simp only[tt,seval]
   exact⟨_,_,aE (by rw[hzb];simp [aX,hok,ho,hv,hq,hn,hns0,hka,hsa];try omega),ai rfl⟩
  simp only[tt,seval]
  exact⟨_,_,aE (by rw[hzb];simp [aX,hok,ho,hv,hq,hn,hns0,hka,hsa];try omega),ai rfl⟩
 ·try simp only[tt,seval]
  refine cZ (eM 9 op not val qual name kids sub) ?_ ?_<;>simp only[tt,seval,ah,dC,aX]
  generalize cD 9 op val qual name=okv at *
  cases hok:okv
  case false=>
   simp only[tt,seval]
   exact⟨_,_,aE (by rw[hzb];simp [aX,hok];try omega),ai rfl⟩
  simp only[tt,seval]
  by_cases ho:op=0
  case neg=>
   simp only[tt,seval,ho]
   exact⟨_,_,aE (by rw[hzb];simp [aX,hok,ho];try omega),ai rfl⟩
  simp only[tt,seval,ho]
  cases not
  case true=>
   simp only[tt,seval]
   exact⟨_,_,aE (by rw[hzb];simp [aX,hok,ho];try omega),ai rfl⟩
  simp only[tt,seval]
  rw[bX (by kernel_rfl) (ei val)]
  simp only[tt,seval]
  cases hv:zV val
  case false=>
   simp only[tt,seval]
   exact⟨_,_,aE (by rw[hzb];simp [aX,hok,ho,hv];try omega),ai rfl⟩
  simp only[tt,seval]
  by_cases hq:qual=⟨#[]⟩
  case neg=>
   simp only[tt,seval,hq]
   exact⟨_,_,aE (by rw[hzb];simp [aX,hok,ho,hv,hq];try omega),ai rfl⟩
  simp only[tt,seval,hq]
  by_cases hn:name=⟨#[]⟩
  case neg=>
   simp only[tt,seval,hn]
   exact⟨_,_,aE (by rw[hzb];simp [aX,hok,ho,hv,hq,hn];try omega),ai rfl⟩
  simp only[tt,seval,hn]
  refine fun _=>?_
  rw[<-hnk]
  by_cases hlo:nk<0
  case pos=>
   simp only[tt,seval,hlo]
   exact⟨_,_,aE (by rw[hzb];simp [aX,hok,ho,hv,hq,hn];try omega),ai rfl⟩
  simp only[tt,seval,hlo]
  refine fun _=>?_
  try rw[<-hnk]
  by_cases hhi:0<nk
  case pos=>
   simp only[tt,seval,hhi]
   exact⟨_,_,aE (by rw[hzb];simp [aX,hok,ho,hv,hq,hn];try omega),ai rfl⟩
  simp only[tt,seval,hhi]
  refine fun _=>?_
  try rw[<-hns]
  by_cases hns0:ns=1
  case neg=>
   simp only[tt,seval,hns0]
   exact⟨_,_,aE (by rw[hzb];simp [aX,hok,ho,hv,hq,hn,hns0];try omega),ai rfl⟩
  simp only[tt,seval,hns0]
  refine cZ (cu kids g hkids) ?_ ?_<;>simp only[tt,seval]
  cases hka:kids.all g
  case false=>
   simp only[tt,seval]
   exact⟨_,_,aE (by rw[hzb];simp [aX,hok,ho,hv,hq,hn,hns0,hka];try omega),ai rfl⟩
  simp only[tt,seval]
  refine cZ (d8 sub (eZ g) (fun q hq=>ny q (eZ g q) (hsub q hq))) ?_ ?_<;>simp only[tt,seval]
  cases hsa:sub.all (eZ g)
  case false=>
   simp only[tt,seval]
   exact⟨_,_,aE (by rw[hzb];simp [aX,hok,ho,hv,hq,hn,hns0,hka,hsa];try omega),ai rfl⟩
  simp only[tt,seval]
  exact⟨_,_,aE (by rw[hzb];simp [aX,hok,ho,hv,hq,hn,hns0,hka,hsa];try omega),ai rfl⟩
 ·have n1:¬kind=1:=by omega
  have n2:¬kind=2:=by omega
  have n3:¬kind=3:=by omega
  have n4:¬kind=4:=by omega
  have n5:¬kind=5:=by omega
  have n6:¬kind=6:=by omega
  have n7:¬kind=7:=by omega
  have n8:¬kind=8:=by omega
  have n9:¬kind=9:=by omega
  have hokf:cD kind op val qual name=false:=by simp [cD,n1,n2,n3,n4];omega
  refine cZ (eM kind op not val qual name kids sub) ?_ ?_<;>simp only[tt,seval,ah,dC,hokf]
  exact⟨_,_,aE (by rw[hzb];simp [hokf]),ai rfl⟩
theorem td (distinct:Bool) (items:List Item) (from_:List Source) (where_:List Expr) (order:List SortKey) (limit:Int) (g:Expr->Bool) (h:¬(1<=items.length/\items.length<=12)):eZ g (Query.mk distinct items from_ where_ order limit)=false:=by simp only[eZ,C1,ao h,Bool.false_and]
theorem wu (distinct:Bool) (items:List Item) (from_:List Source) (where_:List Expr) (order:List SortKey) (limit:Int) (g:Expr->Bool) (h:¬(1<=from_.length/\from_.length<=3)):eZ g (Query.mk distinct items from_ where_ order limit)=false:=by simp only[eZ,C1,ao h,Bool.false_and,Bool.and_false]
theorem xU (distinct:Bool) (items:List Item) (from_:List Source) (where_:List Expr) (order:List SortKey) (limit:Int) (g:Expr->Bool) (h:¬where_.length<=1):eZ g (Query.mk distinct items from_ where_ order limit)=false:=by simp only[eZ,C1,ao h,Bool.false_and,Bool.and_false]
theorem xV (distinct:Bool) (items:List Item) (from_:List Source) (where_:List Expr) (order:List SortKey) (limit:Int) (g:Expr->Bool) (h:¬order.length<=12):eZ g (Query.mk distinct items from_ where_ order limit)=false:=by simp only[eZ,C1,ao h,Bool.false_and,Bool.and_false]
theorem xW (distinct:Bool) (items:List Item) (from_:List Source) (where_:List Expr) (order:List SortKey) (limit:Int) (g:Expr->Bool) (h:¬ -1<=limit):eZ g (Query.mk distinct items from_ where_ order limit)=false:=by simp only[eZ,C1,ao h,Bool.false_and,Bool.and_false]
theorem r2 (distinct:Bool) (items:List Item) (from_:List Source) (where_:List Expr) (order:List SortKey) (limit:Int) (g:Expr->Bool) {x:Item} (hm:x∈items) (h:qu x=false):eZ g (Query.mk distinct items from_ where_ order limit)=false:=by simp only[eZ,C1,dv hm h,Bool.false_and,Bool.and_false]
theorem vg (distinct:Bool) (items:List Item) (from_:List Source) (where_:List Expr) (order:List SortKey) (limit:Int) (g:Expr->Bool) {i:Nat} (hm:i<from_.length) (h:qK i from_[i]=false):eZ g (Query.mk distinct items from_ where_ order limit)=false:=by simp only[eZ,C1,Bb hm h,Bool.false_and,Bool.and_false]
theorem EE (distinct:Bool) (items:List Item) (from_:List Source) (where_:List Expr) (order:List SortKey) (limit:Int) (g:Expr->Bool) (h1:1<=items.length/\items.length<=12) (h2:1<=from_.length/\from_.length<=3) (h3:where_.length<=1) (h4:order.length<=12) (h5 : -1<=limit) (h6:∀j (hj:j<items.length),qu items[j]=true) (h7:∀j (hj:j<from_.length),qK j from_[j]=true) :
 eZ g (Query.mk distinct items from_ where_ order limit)=(exprsQ (Query.mk distinct items from_ where_ order limit)).all g:=by simp only[eZ,C1,ap h1,ap h2,ap h3,ap h4,ap h5,eN h6,CM h7,Bool.true_and]
set_option maxHeartbeats 1000000 in
theorem jP (q:Query) (g:Expr->Bool) (h:∀x∈exprsQ q,Cl Tryz.prog 127 [.ag (av x.row)] [] fun r _=>r=vb (g x)) (hsz:aP q<=1048576):Cl Tryz.prog 133 [.ag (av q.row)] [] fun r _=>r=vb (eZ g q):=by
 obtain⟨distinct,items,from_,where_,order,limit⟩:=q
 obtain⟨zb,hzb⟩:∃zb,zb=eZ g (Query.mk distinct items from_ where_ order limit):=⟨_,rfl⟩
 rw[<-hzb,ar]
 refine ae ab false Tryz.func133 rfl (by kernel_rfl) ?_
 simp only[Tryz.f133,tt,seval]
 refine fun _=>?_
 by_cases c1:(items.length:Int)<1
 case pos=>
  simp only[tt,seval,ap c1]
  exact⟨_,_,aE (by rw[hzb];exact (td distinct items from_ where_ order limit g (by omega)).symm),ai rfl⟩
 simp only[tt,seval,ao c1]
 refine fun _=>?_
 by_cases c2:(12:Int)<items.length
 case pos=>
  simp only[tt,seval,ap c2]
  exact⟨_,_,aE (by rw[hzb];exact (td distinct items from_ where_ order limit g (by omega)).symm),ai rfl⟩
 simp only[tt,seval,ao c2]
 refine fun _=>?_
 by_cases c3:(from_.length:Int)<1
 case pos=>
  simp only[tt,seval,ap c3]
  exact⟨_,_,aE (by rw[hzb];exact (wu distinct items from_ where_ order limit g (by omega)).symm),ai rfl⟩
 simp only[tt,seval,ao c3]
 refine fun _=>?_
 by_cases c4:(3:Int)<from_.length
 case pos=>
  simp only[tt,seval,ap c4]
  exact⟨_,_,aE (by rw[hzb];exact (wu distinct items from_ where_ order limit g (by omega)).symm),ai rfl⟩
 simp only[tt,seval,ao c4]
 refine fun _=>?_
 by_cases c5:(1:Int)<where_.length
 case pos=>
  simp only[tt,seval,ap c5]
  exact⟨_,_,aE (by rw[hzb];exact (xU distinct items from_ where_ order limit g (by omega)).symm),ai rfl⟩
 simp only[tt,seval,ao c5]
 refine fun _=>?_
 by_cases c6:(12:Int)<order.length
 case pos=>
  simp only[tt,seval,ap c6]
  exact⟨_,_,aE (by rw[hzb];exact (xV distinct items from_ where_ order limit g (by omega)).symm),ai rfl⟩
 simp only[tt,seval,ao c6]
 refine aa (fun c7=>?_) (fun c7=>?_)
 ·exact⟨_,_,aE (by rw[hzb];exact (xW distinct items from_ where_ order limit g (by omega)).symm),ai rfl⟩
 ·try simp only[tt,seval]
  refine fun _=>?_
  refine dLoop.intro (fun f L p=>∃i:Nat,f 49=vi i/\i<=items.length/\(∀j (hj:j<items.length),j<i->qu items[j]=true)/\L=[(1,.str [.v (.bool distinct),.sl items.length (items.flatMap Item.row) none,.sl from_.length (from_.flatMap Source.row) none,.sl where_.length (where_.flatMap Expr.row) none,.sl order.length (order.flatMap SortKey.row) none,.v (.int .i64 limit)])]/\p=none) (fun f _ _=>(items.length-aU (f 49)).toNat) [(1,.str [.v (.bool distinct),.sl items.length (items.flatMap Item.row) none,.sl from_.length (from_.flatMap Source.row) none,.sl where_.length (where_.flatMap Expr.row) none,.sl order.length (order.flatMap SortKey.row) none,.v (.int .i64 limit)])] none ⟨ac rfl (ak _),al _,?_⟩ ?_
  ·simp only[tt,seval]
   exact⟨0,rfl,by omega,fun j _ h=>absurd h (Nat.not_lt_zero _)⟩
  ·rintro g' L p ⟨i,ix,hi,hall,rfl,rfl⟩
   simp only[tt,seval] at ix
   simp only[tt,seval,ix,Int.ofNat_lt]
   refine aa (fun hlt=>?_) (fun hge=>?_)
   ·have hlt:i<items.length:=by omega
    obtain⟨it,b5⟩:∃it,it=items[i]:=⟨_,rfl⟩
    refine⟨by omega,by omega,_,aF Item.row_len (ay hlt),Item.ne _ _,?_⟩
    obtain⟨star,qual,⟨k,o,n,v,q,m,ks,ss⟩,as_⟩:=it
    rw[<-b5,Item.row_mk,ah]
    simp only[tt,seval]
    cases star
    case true=>
     simp only[tt,seval]
     refine cZ (wr qual) ?_ ?_<;>simp only[tt,seval]
     cases hm:gq qual
     case false=>
      simp only[tt,seval]
      exact⟨_,_,aE (by rw[hzb];exact (r2 distinct items from_ where_ order limit g (b5▸aI hlt) (by simp [qu,hm])).symm),ai rfl⟩
     simp only[tt,seval]
     by_cases ha:as_=⟨#[]⟩
     case neg=>
      simp only[tt,seval,ao ha]
      exact⟨_,_,aE (by rw[hzb];exact (r2 distinct items from_ where_ order limit g (b5▸aI hlt) (by simp [qu,hm,ha])).symm),ai rfl⟩
     simp only[tt,seval,ap ha]
     refine cZ (CN (Expr.mk k o n v q m ks ss)) ?_ ?_<;>simp only[tt,seval,ah]
     cases hz:dX k o n v q m ks.length ss.length
     case false=>
      simp only[tt,seval,oP,hz]
      exact⟨_,_,aE (by rw[hzb];exact (r2 distinct items from_ where_ order limit g (b5▸aI hlt) (by simp [qu,hm,ha,oP,hz])).symm),ai rfl⟩
     simp only[tt,seval,oP,hz,ix]
     try rw[dk i (by omega)]
     exact⟨_,none,ac rfl (ak _),al _,⟨i+1,rfl,by omega,fun j hj hji=>by
      by_cases e:j=i
      ·subst e;rw[<-b5];simp [qu,hm,ha,oP,hz]
      ·exact hall j hj (by omega),rfl,rfl⟩,by simp only[aU];omega⟩
    case false=>
     simp only[tt,seval]
     by_cases hq:qual=⟨#[]⟩
     case neg=>
      simp only[tt,seval,ao hq]
      exact⟨_,_,aE (by rw[hzb];exact (r2 distinct items from_ where_ order limit g (b5▸aI hlt) (by simp [qu,hq])).symm),ai rfl⟩
     simp only[tt,seval,ap hq]
     refine cZ (wr as_) ?_ ?_<;>simp only[tt,seval,ix]
     cases hm:gq as_
     case false=>
      simp only[tt,seval]
      exact⟨_,_,aE (by rw[hzb];exact (r2 distinct items from_ where_ order limit g (b5▸aI hlt) (by simp [qu,hm])).symm),ai rfl⟩
     simp only[tt,seval]
     try rw[dk i (by omega)]
     exact⟨_,none,ac rfl (ak _),al _,⟨i+1,rfl,by omega,fun j hj hji=>by
      by_cases e:j=i
      ·subst e;rw[<-b5];simp [qu,hm,hq]
      ·exact hall j hj (by omega),rfl,rfl⟩,by simp only[aU];omega⟩
   ·have hall:=fun j hj=>hall j hj (by omega)
    have hall1:=hall
    clear hall
    refine fun _=>?_
    refine dLoop.intro (fun f L p=>∃i:Nat,f 92=vi i/\i<=from_.length/\(∀j (hj:j<from_.length),j<i->qK j from_[j]=true)/\L=[(1,.str [.v (.bool distinct),.sl items.length (items.flatMap Item.row) none,.sl from_.length (from_.flatMap Source.row) none,.sl where_.length (where_.flatMap Expr.row) none,.sl order.length (order.flatMap SortKey.row) none,.v (.int .i64 limit)])]/\p=none) (fun f _ _=>(from_.length-aU (f 92)).toNat) [(1,.str [.v (.bool distinct),.sl items.length (items.flatMap Item.row) none,.sl from_.length (from_.flatMap Source.row) none,.sl where_.length (where_.flatMap Expr.row) none,.sl order.length (order.flatMap SortKey.row) none,.v (.int .i64 limit)])] none ⟨ac rfl (ak _),al _,?_⟩ ?_
    ·simp only[tt,seval]
     exact⟨0,rfl,by omega,fun j _ h=>absurd h (Nat.not_lt_zero _)⟩
    ·rintro g' L p ⟨i,ix,hi,hall,rfl,rfl⟩
     simp only[tt,seval] at ix
     simp only[tt,seval,ix,Int.ofNat_lt]
     refine aa (fun hlt=>?_) (fun hge=>?_)
     ·have hlt:i<from_.length:=by omega
      obtain⟨it,b5⟩:∃it,it=from_[i]:=⟨_,rfl⟩
      refine⟨by omega,by omega,_,aF Source.row_len (ay hlt),Source.ne _ _,?_⟩
      obtain⟨table,as_,on⟩:=it
      rw[<-b5,Source.row_mk]
      simp only[tt,seval]
      refine cZ (er table) ?_ ?_<;>simp only[tt,seval]
      cases hnb:decide (1<=table.size/\table.size<=20)
      case false=>
       simp only[tt,seval]
       exact⟨_,_,aE (by rw[hzb];exact (vg distinct items from_ where_ order limit g hlt (by rw[<-b5];simp [qK,b9,hnb])).symm),ai rfl⟩
      simp only[tt,seval]
      refine cZ (wr as_) ?_ ?_<;>simp only[tt,seval]
      cases hm:gq as_
      case false=>
       simp only[tt,seval]
       exact⟨_,_,aE (by rw[hzb];exact (vg distinct items from_ where_ order limit g hlt (by rw[<-b5];simp [qK,b9,hnb,hm])).symm),ai rfl⟩
      simp only[tt,seval]
      refine fun _=>?_
      by_cases c8:(1:Int)<on.length
      case pos=>
       simp only[tt,seval,ap c8]
       exact⟨_,_,aE (by rw[hzb];exact (vg distinct items from_ where_ order limit g hlt (by rw[<-b5];simp only[qK,ao (show ¬on.length<=1 by omega),Bool.false_and,Bool.and_false])).symm),ai rfl⟩
      simp only[tt,seval,ao c8]
      by_cases c9:(i:Int)=0
      case neg=>
       simp only[tt,seval,c9,ix]
       try rw[dk i (by omega)]
       exact⟨_,none,ac rfl (ak _),al _,⟨i+1,rfl,by omega,fun j hj hji=>by
        by_cases e:j=i
        ·subst e;rw[<-b5];simp only[qK,b9,hnb,hm,ap (show on.length<=1 by omega),ap (show ¬j=0 by omega),Bool.true_and,Bool.true_or]
        ·exact hall j hj (by omega),rfl,rfl⟩,by simp only[aU];omega⟩
      simp only[tt,seval,ap c9,ix]
      refine fun _=>?_
      refine aa (fun c10=>?_) (fun c10=>?_)
      ·exact⟨_,_,aE (by rw[hzb];exact (vg distinct items from_ where_ order limit g hlt (by rw[<-b5];simp only[qK,ao (show ¬ ¬i=0 by omega),ao (show ¬on.length=0 by omega),Bool.or_false,Bool.and_false])).symm),ai rfl⟩
      ·have hi0:i=0:=by omega
       try rw[dk i (by omega)]
       exact⟨_,none,ac rfl (ak _),al _,⟨i+1,rfl,by omega,fun j hj hji=>by
        by_cases e:j=i
        ·subst e;rw[<-b5];simp only[qK,b9,hnb,hm,ap (show on.length<=1 by omega),ap (show on.length=0 by omega),Bool.true_and,Bool.or_true]
        ·exact hall j hj (by omega),rfl,rfl⟩,by simp only[aU];omega⟩
     ·have hall:=fun j hj=>hall j hj (by omega)
      refine cZ (qr distinct items from_ where_ order limit hsz) ?_ ?_<;>simp only[tt,seval,ar]
      refine cZ (cu (exprsQ (Query.mk distinct items from_ where_ order limit)) g h) ?_ ?_<;>simp only[tt,seval]
      exact⟨_,_,aE (by rw[hzb,EE distinct items from_ where_ order limit g ⟨by omega,by omega⟩ ⟨by omega,by omega⟩ (by omega) (by omega) (by omega) hall1 hall]),ai rfl⟩
set_option maxHeartbeats 1000000 in
theorem kM (q:Query) (g:Expr->Bool) (h:∀x∈exprsQ q,Cl Tryz.prog 121 [.ag (av x.row)] [] fun r _=>r=vb (g x)) (hsz:aP q<=1048576):Cl Tryz.prog 128 [.ag (av q.row)] [] fun r _=>r=vb (eZ g q):=by
 obtain⟨distinct,items,from_,where_,order,limit⟩:=q
 obtain⟨zb,hzb⟩:∃zb,zb=eZ g (Query.mk distinct items from_ where_ order limit):=⟨_,rfl⟩
 rw[<-hzb,ar]
 refine ae ab false Tryz.func128 rfl (by kernel_rfl) ?_
 simp only[Tryz.f128,tt,seval]
 refine fun _=>?_
 refine cZ (cF items.length 1 12) ?_ ?_<;>simp only[tt,seval]
 by_cases c1:(1:Int)<=items.length/\(items.length:Int)<=12
 case neg=>
  simp only[tt,seval,ao c1]
  exact⟨_,_,aE (by rw[hzb];exact (td distinct items from_ where_ order limit g (by omega)).symm),ai rfl⟩
 simp only[tt,seval,ap c1]
 refine fun _=>?_
 refine cZ (cF from_.length 1 3) ?_ ?_<;>simp only[tt,seval]
 by_cases c2:(1:Int)<=from_.length/\(from_.length:Int)<=3
 case neg=>
  simp only[tt,seval,ao c2]
  exact⟨_,_,aE (by rw[hzb];exact (wu distinct items from_ where_ order limit g (by omega)).symm),ai rfl⟩
 simp only[tt,seval,ap c2]
 refine fun _=>?_
 by_cases c5:(1:Int)<where_.length
 case pos=>
  simp only[tt,seval,ap c5]
  exact⟨_,_,aE (by rw[hzb];exact (xU distinct items from_ where_ order limit g (by omega)).symm),ai rfl⟩
 simp only[tt,seval,ao c5]
 refine fun _=>?_
 by_cases c6:(12:Int)<order.length
 case pos=>
  simp only[tt,seval,ap c6]
  exact⟨_,_,aE (by rw[hzb];exact (xV distinct items from_ where_ order limit g (by omega)).symm),ai rfl⟩
 simp only[tt,seval,ao c6]
 refine aa (fun c7=>?_) (fun c7=>?_)
 ·exact⟨_,_,aE (by rw[hzb];exact (xW distinct items from_ where_ order limit g (by omega)).symm),ai rfl⟩
 ·try simp only[tt,seval]
  refine dLoop.intro (fun f L p=>∃i:Nat,f 3=vi i/\i<=items.length/\(∀j (hj:j<items.length),j<i->qu items[j]=true)/\L=[(1,.str [.v (.bool distinct),.sl items.length (items.flatMap Item.row) none,.sl from_.length (from_.flatMap Source.row) none,.sl where_.length (where_.flatMap Expr.row) none,.sl order.length (order.flatMap SortKey.row) none,.v (.int .i64 limit)])]/\p=none) (fun f _ _=>(items.length-aU (f 3)).toNat) [(1,.str [.v (.bool distinct),.sl items.length (items.flatMap Item.row) none,.sl from_.length (from_.flatMap Source.row) none,.sl where_.length (where_.flatMap Expr.row) none,.sl order.length (order.flatMap SortKey.row) none,.v (.int .i64 limit)])] none ⟨ac rfl (ak _),al _,?_⟩ ?_
  ·simp only[tt,seval]
   exact⟨0,rfl,by omega,fun j _ h=>absurd h (Nat.not_lt_zero _)⟩
  ·rintro g' L p ⟨i,ix,hi,hall,rfl,rfl⟩
   simp only[tt,seval] at ix
   simp only[tt,seval,ix,Int.ofNat_lt]
   refine fun _=>?_
   refine aa (fun hlt=>?_) (fun hge=>?_)
   ·have hlt:i<items.length:=by omega
    obtain⟨it,b5⟩:∃it,it=items[i]:=⟨_,rfl⟩
    refine⟨by omega,by omega,_,aF Item.row_len (ay hlt),Item.ne _ _,?_⟩
    obtain⟨star,qual,⟨k,o,n,v,q,m,ks,ss⟩,as_⟩:=it
    rw[<-b5,Item.row_mk,ah]
    simp only[tt,seval]
    cases star
    case true=>
     simp only[tt,seval]
     refine cZ (ls qual) ?_ ?_<;>simp only[tt,seval]
     cases hm:gq qual
     case false=>
      simp only[tt,seval]
      exact⟨_,_,aE (by rw[hzb];exact (r2 distinct items from_ where_ order limit g (b5▸aI hlt) (by simp [qu,hm])).symm),ai rfl⟩
     simp only[tt,seval]
     by_cases ha:as_=⟨#[]⟩
     case neg=>
      simp only[tt,seval,ao ha]
      exact⟨_,_,aE (by rw[hzb];exact (r2 distinct items from_ where_ order limit g (b5▸aI hlt) (by simp [qu,hm,ha])).symm),ai rfl⟩
     simp only[tt,seval,ap ha]
     refine cZ (CL k o n v q m ks ss) ?_ ?_<;>simp only[tt,seval,ah,Gq]
     cases hz:dX k o n v q m ks.length ss.length
     case false=>
      simp only[tt,seval]
      exact⟨_,_,aE (by rw[hzb];exact (r2 distinct items from_ where_ order limit g (b5▸aI hlt) (by simp [qu,hm,ha,oP,hz])).symm),ai rfl⟩
     simp only[tt,seval,ix]
     try rw[dk i (by omega)]
     exact⟨_,none,ac rfl (ak _),al _,⟨i+1,rfl,by omega,fun j hj hji=>by
      by_cases e:j=i
      ·subst e;rw[<-b5];simp [qu,hm,ha,oP,hz]
      ·exact hall j hj (by omega),rfl,rfl⟩,by simp only[aU];omega⟩
    case false=>
     simp only[tt,seval]
     by_cases hq:qual=⟨#[]⟩
     case neg=>
      simp only[tt,seval,ao hq]
      exact⟨_,_,aE (by rw[hzb];exact (r2 distinct items from_ where_ order limit g (b5▸aI hlt) (by simp [qu,hq])).symm),ai rfl⟩
     simp only[tt,seval,ap hq]
     refine cZ (ls as_) ?_ ?_<;>simp only[tt,seval,ix]
     cases hm:gq as_
     case false=>
      simp only[tt,seval]
      exact⟨_,_,aE (by rw[hzb];exact (r2 distinct items from_ where_ order limit g (b5▸aI hlt) (by simp [qu,hm])).symm),ai rfl⟩
     simp only[tt,seval]
     try rw[dk i (by omega)]
     exact⟨_,none,ac rfl (ak _),al _,⟨i+1,rfl,by omega,fun j hj hji=>by
      by_cases e:j=i
      ·subst e;rw[<-b5];simp [qu,hm,hq]
      ·exact hall j hj (by omega),rfl,rfl⟩,by simp only[aU];omega⟩
   ·have hall:=fun j hj=>hall j hj (by omega)
    have hall1:=hall
    clear hall
    refine dLoop.intro (fun f L p=>∃i:Nat,f 5=vi i/\i<=from_.length/\(∀j (hj:j<from_.length),j<i->qK j from_[j]=true)/\L=[(1,.str [.v (.bool distinct),.sl items.length (items.flatMap Item.row) none,.sl from_.length (from_.flatMap Source.row) none,.sl where_.length (where_.flatMap Expr.row) none,.sl order.length (order.flatMap SortKey.row) none,.v (.int .i64 limit)])]/\p=none) (fun f _ _=>(from_.length-aU (f 5)).toNat) [(1,.str [.v (.bool distinct),.sl items.length (items.flatMap Item.row) none,.sl from_.length (from_.flatMap Source.row) none,.sl where_.length (where_.flatMap Expr.row) none,.sl order.length (order.flatMap SortKey.row) none,.v (.int .i64 limit)])] none ⟨ac rfl (ak _),al _,?_⟩ ?_
    ·simp only[tt,seval]
     exact⟨0,rfl,by omega,fun j _ h=>absurd h (Nat.not_lt_zero _)⟩
    ·rintro g' L p ⟨i,ix,hi,hall,rfl,rfl⟩
     simp only[tt,seval] at ix
     simp only[tt,seval,ix,Int.ofNat_lt]
     refine fun _=>?_
     refine aa (fun hlt=>?_) (fun hge=>?_)
     ·have hlt:i<from_.length:=by omega
      obtain⟨it,b5⟩:∃it,it=from_[i]:=⟨_,rfl⟩
      refine⟨by omega,by omega,_,aF Source.row_len (ay hlt),Source.ne _ _,?_⟩
      obtain⟨table,as_,on⟩:=it
      rw[<-b5,Source.row_mk]
      simp only[tt,seval]
      refine cZ (gb table) ?_ ?_<;>simp only[tt,seval]
      cases hnb:decide (1<=table.size/\table.size<=20)
      case false=>
       simp only[tt,seval]
       exact⟨_,_,aE (by rw[hzb];exact (vg distinct items from_ where_ order limit g hlt (by rw[<-b5];simp [qK,b9,hnb])).symm),ai rfl⟩
      simp only[tt,seval]
      refine cZ (ls as_) ?_ ?_<;>simp only[tt,seval]
      cases hm:gq as_
      case false=>
       simp only[tt,seval]
       exact⟨_,_,aE (by rw[hzb];exact (vg distinct items from_ where_ order limit g hlt (by rw[<-b5];simp [qK,b9,hnb,hm])).symm),ai rfl⟩
      simp only[tt,seval]
      refine fun _=>?_
      by_cases c8:(1:Int)<on.length
      case pos=>
       simp only[tt,seval,ap c8]
       exact⟨_,_,aE (by rw[hzb];exact (vg distinct items from_ where_ order limit g hlt (by rw[<-b5];simp only[qK,ao (show ¬on.length<=1 by omega),Bool.false_and,Bool.and_false])).symm),ai rfl⟩
      simp only[tt,seval,ao c8,ix]
      by_cases c9:(i:Int)=0
      case neg=>
       simp only[tt,seval,c9,ix]
       try rw[dk i (by omega)]
       exact⟨_,none,ac rfl (ak _),al _,⟨i+1,rfl,by omega,fun j hj hji=>by
        by_cases e:j=i
        ·subst e;rw[<-b5];simp only[qK,b9,hnb,hm,ap (show on.length<=1 by omega),ap (show ¬j=0 by omega),Bool.true_and,Bool.true_or]
        ·exact hall j hj (by omega),rfl,rfl⟩,by simp only[aU];omega⟩
      simp only[tt,seval,ap c9,ix]
      refine fun _=>?_
      refine aa (fun c10=>?_) (fun c10=>?_)
      ·exact⟨_,_,aE (by rw[hzb];exact (vg distinct items from_ where_ order limit g hlt (by rw[<-b5];simp only[qK,ao (show ¬ ¬i=0 by omega),ao (show ¬on.length=0 by omega),Bool.or_false,Bool.and_false])).symm),ai rfl⟩
      ·have hi0:i=0:=by omega
       try rw[dk i (by omega)]
       exact⟨_,none,ac rfl (ak _),al _,⟨i+1,rfl,by omega,fun j hj hji=>by
        by_cases e:j=i
        ·subst e;rw[<-b5];simp only[qK,b9,hnb,hm,ap (show on.length<=1 by omega),ap (show on.length=0 by omega),Bool.true_and,Bool.or_true]
        ·exact hall j hj (by omega),rfl,rfl⟩,by simp only[aU];omega⟩
     ·have hall:=fun j hj=>hall j hj (by omega)
      have hq:=EE distinct items from_ where_ order limit g ⟨by omega,by omega⟩ ⟨by omega,by omega⟩ (by omega) (by omega) (by omega) hall1 hall
      have hql:=cA (Query.mk distinct items from_ where_ order limit)
      refine cZ (lr distinct items from_ where_ order limit hsz) ?_ ?_<;>simp only[tt,seval,ar]
      rw[hq] at hzb
      generalize exprsQ (Query.mk distinct items from_ where_ order limit)=l at *
      refine dLoop.intro (fun f L p=>∃i:Nat,f 8=vi i/\i<=l.length/\(∀j (hj:j<l.length),j<i->g l[j]=true)/\L=[(1,.str [.v (.bool distinct),.sl items.length (items.flatMap Item.row) none,.sl from_.length (from_.flatMap Source.row) none,.sl where_.length (where_.flatMap Expr.row) none,.sl order.length (order.flatMap SortKey.row) none,.v (.int .i64 limit)])]/\p=none) (fun f _ _=>(l.length-aU (f 8)).toNat) [(1,.str [.v (.bool distinct),.sl items.length (items.flatMap Item.row) none,.sl from_.length (from_.flatMap Source.row) none,.sl where_.length (where_.flatMap Expr.row) none,.sl order.length (order.flatMap SortKey.row) none,.v (.int .i64 limit)])] none ⟨ac rfl (ak _),al _,?_⟩ ?_
      ·simp only[tt,seval]
       exact⟨0,rfl,by omega,fun j _ h=>absurd h (Nat.not_lt_zero _)⟩
      ·rintro g' L p ⟨i,ix,hi,hal,rfl,rfl⟩
       simp only[tt,seval] at ix
       simp only[tt,seval,ix,Int.ofNat_lt]
       refine fun _=>aa (fun hlt=>?_) (fun hge=>?_)
       ·have hlt:i<l.length:=by omega
        refine⟨by omega,by omega,_,aF aC (ay hlt),Expr.ne _ _,?_⟩
        simp only[seval,Expr.tk,aC]
        refine cZ (h l[i] (aI hlt)) ?_ ?_<;>simp only[tt,seval,ix]
        refine aa (fun hb=>?_) (fun hb=>?_)
        ·have hb:g l[i]=false:=by simpa only[Bool.not_eq_true'] using hb
         exact⟨_,_,aE (by rw[hzb];exact (dv (aI hlt) hb).symm),ai rfl⟩
        ·have hb:g l[i]=true:=by simpa only[Bool.not_eq_false'] using hb
         try rw[dk i (by omega)]
         exact⟨_,none,ac rfl (ak _),al _,⟨i+1,rfl,by omega,fun j hj hji=>by
          by_cases e:j=i
          ·subst e;exact hb
          ·exact hal j hj (by omega),rfl,rfl⟩,by simp only[aU];omega⟩
       ·exact⟨_,_,aE (by rw[hzb];exact (eN fun j hj=>hal j hj (by omega)).symm),ai rfl⟩
theorem fT {n:Nat} {l:List D} (h:l.length=n):eE n l=some l:=by
 have:=cx (r:=[]) h
 rwa[List.append_nil] at this
theorem Be {kind op:Int} {not:Bool} {val:Val} {qual name:ByteArray} {nk ns:Int} (h:aH kind op not val qual name nk ns=true):ns<=1:=by
 simp only[aH,Bool.and_eq_true,decide_eq_true_eq] at h
 have h:=h.2.2.2.2.2.2
 rw[h];unfold aX;(repeat' split)<;>decide
theorem tf (kind op:Int) (not:Bool) (val:Val) (qual name:ByteArray) (kids:List Expr) (sub:List Query) (g:Expr->Bool) (hg:∀x,eW x (Expr.mk kind op not val qual name kids sub)->Cl Tryz.prog 121 [.ag (av x.row)] [] fun r _=>r=vb (g x)) (hsz:aw (Expr.mk kind op not val qual name kids sub)<=1048576):Cl Tryz.prog 121 [.ag (av (Expr.mk kind op not val qual name kids sub).row)] [] fun r _=>r=vb (wt g (Expr.mk kind op not val qual name kids sub)):=by
 have hks:=hsz
 rw[dq,az,cg] at hks
 obtain⟨zb,hzb⟩:∃zb,zb=wt g (Expr.mk kind op not val qual name kids sub):=⟨_,rfl⟩
 rw[<-hzb]
 have e:wt g (Expr.mk kind op not val qual name kids sub)=(aH kind op not val qual name kids.length sub.length&&(kids.all g&&sub.all (eZ g))):=rfl
 rw[e] at hzb
 rw[ah]
 refine ae ab false Tryz.func121 rfl (by kernel_rfl) ?_
 simp only[Tryz.f121,tt,seval]
 refine cZ (yO kind op not val qual name kids sub (by omega) (by omega)) ?_ ?_<;>simp only[tt,seval,ah]
 cases hb:aH kind op not val qual name kids.length sub.length
 case false=>
  simp only[tt,seval]
  exact⟨_,_,aE (by rw[hzb,hb];rfl),ai rfl⟩
 have hns:=Be hb
 rw[hb,Bool.true_and] at hzb
 simp only[tt,seval]
 refine dLoop.intro (fun f L p=>∃i:Nat,f 3=vi i/\i<=kids.length/\(∀j (hj:j<kids.length),j<i->g kids[j]=true)/\L=[(1,.str [.v (.int .i64 kind),.v (.int .i64 op),.v (.bool not),.v (.int .i64 val.kind),.v (.int .i64 val.num),.v (.string val.text),.v (.string qual),.v (.string name),.sl kids.length (kids.flatMap Expr.row) none,.sl sub.length (sub.flatMap Query.row) none])]/\p=none) (fun f _ _=>(kids.length-aU (f 3)).toNat) [(1,.str [.v (.int .i64 kind),.v (.int .i64 op),.v (.bool not),.v (.int .i64 val.kind),.v (.int .i64 val.num),.v (.string val.text),.v (.string qual),.v (.string name),.sl kids.length (kids.flatMap Expr.row) none,.sl sub.length (sub.flatMap Query.row) none])] none ⟨ac rfl (ak _),al _,?_⟩ ?_
 ·simp only[tt,seval]
  exact⟨0,rfl,by omega,fun j _ h=>absurd h (Nat.not_lt_zero _)⟩
 ·rintro g' L p ⟨i,ix,hi,hal,rfl,rfl⟩
  simp only[tt,seval] at ix
  simp only[tt,seval,ix,Int.ofNat_lt]
  refine fun _=>aa (fun hlt=>?_) (fun hge=>?_)
  ·have hlt:i<kids.length:=by omega
   refine⟨by omega,by omega,_,aF aC (ay hlt),Expr.ne _ _,?_⟩
   simp only[seval,Expr.tk,aC]
   refine cZ (hg kids[i] (.inl (aI hlt))) ?_ ?_<;>simp only[tt,seval,ix]
   refine aa (fun hb=>?_) (fun hb=>?_)
   ·have hb:g kids[i]=false:=by simpa only[Bool.not_eq_true'] using hb
    exact⟨_,_,aE (by rw[hzb,dv (aI hlt) hb];rfl),ai rfl⟩
   ·have hb:g kids[i]=true:=by simpa only[Bool.not_eq_false'] using hb
    try rw[dk i (by omega)]
    exact⟨_,none,ac rfl (ak _),al _,⟨i+1,rfl,by omega,fun j hj hji=>by
     by_cases e:j=i
     ·subst e;exact hb
     ·exact hal j hj (by omega),rfl,rfl⟩,by simp only[aU];omega⟩
  ·rw[eN fun j hj=>hal j hj (by omega),Bool.true_and] at hzb
   refine fun _=>?_
   rcases sub with _|⟨q,_|⟨q2,rest⟩⟩
   ·simp only[tt,seval]
    exact⟨_,_,aE (by rw[hzb];rfl),ai rfl⟩
   ·simp only[tt,seval]
    refine⟨q.row++[],by simp,Query.ne _ _,?_⟩
    simp only[tt,seval,fT (Query.row_len q),Query.row_len]
    refine cZ (kM q g (fun x hx=>hg x (.inr ⟨q,by show q∈[q];simp,hx⟩)) (Nat.le_trans (jx (e:=(Expr.mk kind op not val qual name kids [q])) (by show q∈[q];simp)) hsz)) ?_ ?_<;>simp only[tt,seval]
    exact⟨_,_,aE (by rw[hzb];simp),ai rfl⟩
   ·simp only[List.length_cons] at hns;omega
theorem rN (e:Expr):aw e<=1048576->Cl Tryz.prog 121 [.ag (av e.row)] [] fun r _=>r=vb (fmE e):=by
 refine fM (P:=fun e b=>aw e<=1048576->Cl Tryz.prog 121 [.ag (av e.row)] [] fun r _=>r=vb b) (fun e g hg hsz=>?_) e
 obtain⟨kind,op,not,val,qual,name,kids,sub⟩:=e
 exact tf kind op not val qual name kids sub g (fun x hx=>hg x hx (Nat.le_trans (fj hx) hsz)) hsz
theorem qv (e:Expr):aw e<=1048576->Cl Tryz.prog 127 [.ag (av e.row)] [] fun r _=>r=vb (fmE e):=by
 refine fM (P:=fun e b=>aw e<=1048576->Cl Tryz.prog 127 [.ag (av e.row)] [] fun r _=>r=vb b) (fun e g hg hsz=>?_) e
 obtain⟨kind,op,not,val,qual,name,kids,sub⟩:=e
 have hks:=hsz
 rw[dq,az,cg] at hks
 have hg:=fun x hx=>hg x hx (Nat.le_trans (fj hx) hsz)
 exact qZ kind op not val qual name kids sub g (fun x hx=>hg x (.inl hx)) (fun q hq=>jP q g (fun x hx=>hg x (.inr ⟨q,hq,hx⟩)) (Nat.le_trans (jx (e:=(Expr.mk kind op not val qual name kids sub)) hq) hsz)) (by omega) (by omega)
noncomputable def okE (e:Expr):Bool:=decide (nK e<=24)&&(decide (iw e<=200)&&fmE e)
theorem yP (d n:Nat):Cl Tryz.prog 124 [vi d,vi n] [] fun r _=>r=vb (decide (d<=24)&&decide (n<=200)):=by
 refine ae ab false Tryz.func124 rfl (by kernel_rfl) ?_
 simp only[Tryz.f124,tt,seval]
 by_cases h1:(d:Int)<=24
 ·simp only[tt,seval,ap h1]
  exact⟨_,_,aE (by rw[ap (show d<=24 by omega),Bool.true_and];exact decide_eq_decide.2 (by omega)),ai rfl⟩
 ·simp only[tt,seval,ao h1]
  exact⟨_,_,aE (by rw[ao (show ¬d<=24 by omega)];rfl),ai rfl⟩
theorem Bf (e:Expr) (hsz:aw e<=1048576):Cl Tryz.prog 74 [.ag (av e.row)] [] fun r _=>r=vb (okE e):=by
 obtain⟨zb,hzb⟩:∃zb,zb=okE e:=⟨_,rfl⟩
 rw[<-hzb]
 rw[okE] at hzb
 have c1:=(ot e).1 hsz
 have c2:=B8 e hsz 200 (by omega) (by omega)
 have c3:=rN e hsz
 obtain⟨kind,op,not,val,qual,name,kids,sub⟩:=e
 generalize nK (Expr.mk kind op not val qual name kids sub)=d at *
 generalize iw (Expr.mk kind op not val qual name kids sub)=n at *
 generalize fmE (Expr.mk kind op not val qual name kids sub)=b at *
 rw[ah] at c1 c2 c3 ⊢
 refine ae ab false Tryz.func74 rfl (by kernel_rfl) ?_
 simp only[Tryz.f74,tt,seval]
 refine cZ (c2) ?_ ?_<;>simp only[tt,seval]
 by_cases h2:n<=200
 case neg=>
  have h0:cv 200 n<0:=by unfold cv;split<;>omega
  simp only[tt,seval,ao (show ¬(0:Int)<=cv 200 n by omega)]
  exact⟨_,_,aE (by rw[hzb,ao h2,Bool.false_and,Bool.and_false]),ai rfl⟩
 have h0:0<=cv 200 n:=by unfold cv;split<;>omega
 simp only[tt,seval,ap h0]
 refine cZ (c3) ?_ ?_<;>simp only[tt,seval]
 cases b
 case false=>
  simp only[tt,seval]
  exact⟨_,_,aE (by rw[hzb,Bool.and_false,Bool.and_false]),ai rfl⟩
 simp only[tt,seval]
 refine cZ (c1) ?_ ?_<;>simp only[tt,seval]
 exact⟨_,_,aE (by rw[hzb,ap h2,Bool.and_true,Bool.and_true];exact decide_eq_decide.2 (by omega)),ai rfl⟩
theorem ll:(∀a b:List Tok,(a++b).length=a.length+b.length)/\(∀(t:Tok) (a:List Tok),(t::a).length=a.length+1)/\([]:List Tok).length=0:=⟨fun _ _=>aA,fun _ _=>List.length_cons,rfl⟩
def kT (k:Nat):Tok:=⟨1,kw k,0⟩
def gT (s:ByteArray):Tok:=⟨5,s,0⟩
def nT (s:ByteArray):Tok:=⟨2,s,0⟩
def iT (n:Int):Tok:=⟨3,dV n,0⟩
def lG:Tok:=gT ⟨#[40]⟩
def lH:Tok:=gT ⟨#[41]⟩
def kN:Tok:=gT ⟨#[44]⟩
def EZ:Tok:=gT ⟨#[46]⟩
def E1:Tok:=gT ⟨#[42]⟩
def fy (v:Val):Tok:=if v.kind=1 then iT v.num else if v.kind=2 then ⟨4,v.text,0⟩ else if v.kind=3 then (if v.num=1 then kT 21 else kT 22) else kT 20
def dj (op:Int):Tok:=⟨if op=1∨op=2∨op=15 then 1 else 5,oH op,0⟩
def dY (q:ByteArray):List Tok:=if q=⟨#[]⟩ then [] else [nT q,EZ]
def f4 (a:ByteArray):List Tok:=if a=⟨#[]⟩ then [] else [kT 12,nT a]
def bP (b:Bool):List Tok:=if b=true then [kT 15] else []
def ov (w:Bool) (l:List Tok):List Tok:=if w=true then lG::(l++[lH]) else l
def Do:Expr:=.mk 0 0 false ⟨0,0,⟨#[]⟩⟩ ⟨#[]⟩ ⟨#[]⟩ [] []
def C2 (full:Bool) (kind op:Int) (kids:List Expr) (k:Nat):Bool:=mM kind op kids k||(full&&decide (sE (kids.getD k Do)<9))
def bF (full:Bool) (g:Expr->List Tok) (kind op:Int) (kids:List Expr) (k:Nat):List Tok:=ov (C2 full kind op kids k) (g (kids.getD k Do))
def bd (f:Nat->List Tok) (n:Nat):List Tok:=(List.range n).flatMap f
theorem bC (f:Nat->List Tok) (n:Nat):bd f (n+1)=bd f n++f n:=by
 unfold bd
 rw[List.range_succ,List.flatMap_append];simp
theorem yQ (f:Nat->List Tok) {k m:Nat} (h:k<=m):(bd f k).length<=(bd f m).length:=by
 induction m with
 |zero=>rw[Nat.le_zero.1 h];exact Nat.le_refl _
 |succ m ih=>
  by_cases e:k=m+1
  ·subst e;exact Nat.le_refl _
  ·rw[bC,aA];exact Nat.le_trans (ih (by omega)) (Nat.le_add_right _ _)
theorem dH (f:Nat->List Tok) {k m:Nat} (h:k<m):(bd f k).length+(f k).length<=(bd f m).length:=by
 have:=yQ f (show k+1<=m from h)
 rwa[bC,aA] at this
def vG {α:Type} (l:List α) (h:α->List Tok) (i:Nat):List Tok:=match l[i]? with|some x=>h x|none=>[]
theorem bU {α:Type} {l:List α} {h:α->List Tok} {i:Nat} (hi:i<l.length):vG l h i=h l[i]:=by rw[vG,ay hi]
def ea (i:Nat):List Tok:=if 0<i then [kN] else []
def fu (g:Expr->List Tok):Item->List Tok | .mk star qual e as_=>if star=true then dY qual++[E1] else g e++f4 as_
def vh (g:Expr->List Tok):List Expr->List Tok | []=>[]|e::_=>kT 5::g e
def jV (g:Expr->List Tok) (i:Nat):Source->List Tok | .mk table as_ on=>(if 0<i then (if 0<on.length then [kT 4] else [kN]) else [])++(nT table::(f4 as_++vh g on))
def p5 (g:Expr->List Tok):List Expr->List Tok | []=>[]|e::_=>kT 6::g e
def wv (g:Expr->List Tok):SortKey->List Tok | .mk e desc=>g e++(if desc=true then [kT 10] else [])
def tg (n:Int):List Tok:=if 0<=n then [kT 11,iT n] else []
def fG (g:Expr->List Tok) (items:List Item) (i:Nat):List Tok:=ea i++vG items (fu g) i
def gH (g:Expr->List Tok) (from_:List Source) (i:Nat):List Tok:=vG from_ (jV g i) i
def jW (g:Expr->List Tok) (order:List SortKey) (i:Nat):List Tok:=(if i=0 then [kT 7,kT 8] else [kN])++vG order (wv g) i
def jX (g:Expr->List Tok):Query->List Tok
 |.mk distinct items from_ where_ order limit=>
  kT 1::((if distinct=true then [kT 2] else [])++(bd (fG g items) items.length++(kT 3::(bd (gH g from_) from_.length++(p5 g where_++(bd (jW g order) order.length++tg limit))))))
def lW (g:Expr->List Tok):List Query->List Tok | []=>[]|q::_=>jX g q
def r3 (full:Bool) (g:Expr->List Tok) (kind op:Int) (kids:List Expr) (j:Nat):List Tok:=ea j++bF full g kind op kids (j+1)
def p6 (full:Bool) (g:Expr->List Tok):Expr->List Tok
 |.mk kind op not val qual name kids sub=>
  if kind=1 then [fy val] else if kind=2 then dY qual++[nT name] else if kind=3 then dj op::bF full g kind op kids 0 else if kind=9 then kT 19::lG::(lW g sub++[lH]) else
  bF full g kind op kids 0++(if kind=4 then dj op::bF full g kind op kids 1 else if kind=5 then kT 16::(bP not++[kT 20]) else if kind=6 then bP not++(kT 18::(bF full g kind op kids 1++(kT 13::bF full g kind op kids 2))) else
   bP not++(kT 17::lG::((if kind=8 then lW g sub else bd (r3 full g kind op kids) (kids.length-1))++[lH])))
noncomputable def nz (full:Bool):Expr->List Tok:=gg (p6 full)
def Expr.not:Expr->Bool | .mk _ _ n _ _ _ _ _=>n
def Query.lim:Query->Int | .mk _ _ _ _ _ l=>l
inductive Rg:Expr->Prop
 |mk {kind op:Int} {not:Bool} {val:Val} {qual name:ByteArray} {kids:List Expr} {sub:List Query}:(-9223372036854775808<=val.num/\val.num<=9223372036854775807)->(∀k,k∈kids->Rg k)->(∀q,q∈sub->q.lim<=9223372036854775807)->(∀q,q∈sub->∀x,x∈exprsQ q->Rg x)->Rg (.mk kind op not val qual name kids sub)
def RgQ (q:Query):Prop:=q.lim<=9223372036854775807/\∀x,x∈exprsQ q->Rg x
theorem Rg.num {kind op:Int} {not:Bool} {val:Val} {qual name:ByteArray} {kids:List Expr} {sub:List Query} (h:Rg (.mk kind op not val qual name kids sub)) : -9223372036854775808<=val.num/\val.num<=9223372036854775807:=by cases h;assumption
theorem th {x e:Expr} (h:Rg e) (hb:eW x e):Rg x:=by
 cases h with
 |mk h1 h2 h3 h4=>
  rcases hb with hb|⟨q,hq,hb⟩
  ·exact h2 x hb
  ·exact h4 q hq x hb
theorem ww {q:Query} {e:Expr} (h:Rg e) (hq:q∈e.sub):RgQ q:=by
 cases h with
 |mk h1 h2 h3 h4=>exact⟨h3 q hq,h4 q hq⟩
theorem mw {α β γ:Type} [Inhabited α] [Inhabited β] [Inhabited γ] {F1:(Expr->α)->Expr->α} {F2:(Expr->β)->Expr->β} {F3:(Expr->γ)->Expr->γ} {P:Expr->α->β->γ->Prop}
 (h:∀e g1 g2 g3,(∀x,eW x e->P x (g1 x) (g2 x) (g3 x))->P e (F1 g1 e) (F2 g2 e) (F3 g3 e)) (e:Expr):P e (gg F1 e) (gg F2 e) (gg F3 e):=by
 suffices H:∀n:Nat,∀e:Expr,SizeOf.sizeOf e<n->P e (gg F1 e) (gg F2 e) (gg F3 e) from H _ e (Nat.lt_succ_self _)
 intro n
 induction n with
 |zero=>exact fun _ h=>absurd h (Nat.not_lt_zero _)
 |succ n ih=>
  intro e he
  rw[gg,gg,gg]
  refine h e _ _ _ fun x hx=>?_
  have:=uf hx
  simp only[dif_pos this]
  exact ih x (by omega)
theorem vj:∀k:Nat,(kw k).size<=40:=fun k=>by
 by_cases h:k<29
 ·exact (by decide:∀k:Fin 29,(kw k.1).size<=40) ⟨k,h⟩
 ·have:kw k=⟨#[]⟩:=by
   unfold kw
   rw[List.getD_eq_getElem?_getD,List.getElem?_eq_none (by show 29<=k;omega)];rfl
  rw[this];decide
theorem bT (k:Nat):(kT k).text.size<=40:=vj k
theorem rO (op:Int):(oH op).size<=40:=by
 unfold oH
 split
 ·rename_i h
  have e:op.toNat<17:=by omega
  exact (by decide:∀k:Fin 17,(DA.getD k.1 ⟨#[]⟩).size<=40) ⟨op.toNat,e⟩
 ·decide
theorem oQ {n:Int} (h0 : -9223372036854775808<=n) (h1:n<=9223372036854775807):(dV n).size<=40:=by
 have:=pB h0 h1
 show ((Lib.itoa n).toArray).size<=40
 rw[List.size_toArray];omega
def Sm (n:Nat) (l:List Tok):Prop:=l.length<=n/\∀t∈l,t.text.size<=40
theorem Sm.nil:Sm 0 []:=⟨Nat.le_refl _,fun t h=>by cases h⟩
theorem Sm.cons {n:Nat} {t:Tok} {l:List Tok} (h:t.text.size<=40) (hl:Sm n l):Sm (n+1) (t::l):=⟨by simp;exact hl.1,fun x hx=>by
 rcases List.mem_cons.1 hx with rfl|hx
 ·exact h
 ·exact hl.2 x hx⟩
theorem Sm.app {n m:Nat} {a b:List Tok} (h:Sm n a) (k:Sm m b):Sm (n+m) (a++b):=⟨by rw[aA];have:=h.1;have:=k.1;omega,fun x hx=>by
 rcases List.mem_append.1 hx with hx|hx
 ·exact h.2 x hx
 ·exact k.2 x hx⟩
theorem Sm.le {n m:Nat} {l:List Tok} (h:Sm n l) (k:n<=m):Sm m l:=⟨Nat.le_trans h.1 k,h.2⟩
theorem Sm.one {t:Tok} (h:t.text.size<=40):Sm 1 [t]:=Sm.cons h Sm.nil
theorem Sm.ite {c:Prop} [Decidable c] {n:Nat} {a b:List Tok} (h:Sm n a) (k:Sm n b):Sm n (if c then a else b):=by split<;>assumption
theorem Sm.seq {f:Nat->List Tok} {b:Nat->Nat} {n:Nat} (h:∀i,i<n->Sm (b i) (f i)):Sm (((List.range n).map b).sum) (bd f n):=by
 induction n with
 |zero=>exact Sm.nil
 |succ n ih=>
  rw[bC,List.range_succ,List.map_append,List.sum_append,List.map_singleton,List.sum_singleton]
  exact (ih fun i hi=>h i (by omega)).app (h n (by omega))
def kP {α:Type} (d:α->Nat):Option α->Nat
 |some x=>d x
 |none=>0
theorem fU {α:Type} (l:List α) (c:Nat) (d:α->Nat):((List.range l.length).map fun i=>c+kP (fun x=>d x) l[i]?).sum=c*l.length+(l.map d).sum:=by
 have e:∀l:List α,(List.range l.length).map (fun i=>c+kP (fun x=>d x) l[i]?)=l.map fun x=>c+d x:=by
  intro l
  refine List.ext_getElem (by simp) fun i h1 h2=>?_
  simp only[List.length_map,List.length_range] at h1
  simp [h1,kP]
 rw[e]
 induction l with
 |nil=>simp
 |cons x r ih=>simp only[List.map_cons,List.sum_cons,List.length_cons,ih,Nat.mul_add];omega
theorem E2 {v:Val} (h:ou v=true) (hr : -9223372036854775808<=v.num/\v.num<=9223372036854775807):(fy v).text.size<=40:=by
 simp only[ou,Bool.and_eq_true,decide_eq_true_eq] at h
 unfold fy
 split
 ·exact oQ hr.1 hr.2
 ·split
  ·exact h.2.2
  ·split
   ·split<;>exact bT _
   ·exact bT _
theorem xX {q:ByteArray} (h:gq q=true):Sm 2 (dY q):=by
 unfold dY
 split
 ·exact Sm.nil.le (by omega)
 ·rename_i hq
  simp only[gq,b9,Bool.or_eq_true,decide_eq_true_eq,hq,false_or] at h
  exact Sm.cons (by show q.size<=40;omega) (Sm.one (by decide))
theorem Dp {q:ByteArray} (h:gq q=true):Sm 2 (f4 q):=by
 unfold f4
 split
 ·exact Sm.nil.le (by omega)
 ·rename_i hq
  simp only[gq,b9,Bool.or_eq_true,decide_eq_true_eq,hq,false_or] at h
  exact Sm.cons (bT _) (Sm.one (by show q.size<=40;omega))
theorem tj (b:Bool):Sm 1 (bP b):=Sm.ite (Sm.one (bT _)) (Sm.nil.le (by omega))
theorem E3 {w:Bool} {n:Nat} {l:List Tok} (h:Sm n l):Sm (n+2) (ov w l):=Sm.ite ((Sm.cons (by decide) (h.app (Sm.one (by decide)))).le (by omega)) (h.le (by omega))
theorem vk {kind op:Int} {not:Bool} {val:Val} {qual name:ByteArray} {nk ns:Int} (h:aH kind op not val qual name nk ns=true) :
 cD kind op val qual name=true/\((aX kind).2.2.2.2.1<=nk/\nk<=(aX kind).2.2.2.2.2.1)/\ns=(aX kind).2.2.2.2.2.2:=by
 simp only[aH,Bool.and_eq_true,decide_eq_true_eq] at h
 exact⟨h.1,h.2.2.2.2.2.1,h.2.2.2.2.2.2⟩
theorem kQ {kind op:Int} {not:Bool} {val:Val} {qual name:ByteArray} {nk ns:Int} (h:aH kind op not val qual name nk ns=true) :
 (kind=1/\ou val=true/\nk=0/\ns=0)∨(kind=2/\b9 name=true/\gq qual=true/\nk=0/\ns=0)∨(kind=3/\(op=15∨op=16)/\nk=1/\ns=0)∨(kind=4/\(1<=op/\op<=14)/\nk=2/\ns=0)∨(kind=5/\nk=1/\ns=0)∨(kind=6/\nk=3/\ns=0)∨(kind=7/\(2<=nk/\nk<=9)/\ns=0)∨(kind=8/\nk=1/\ns=1)∨(kind=9/\nk=0/\ns=1):=by
 obtain⟨h1,h6,h7⟩:=vk h
 clear h
 by_cases k1:kind=1
 ·subst k1;exact .inl ⟨rfl,h1,by have:0<=nk/\nk<=0:=h6;omega,h7⟩
 by_cases k2:kind=2
 ·subst k2
  have h1:(b9 name&&gq qual)=true:=h1
  simp only[Bool.and_eq_true] at h1
  exact .inr (.inl ⟨rfl,h1.1,h1.2,by have:0<=nk/\nk<=0:=h6;omega,h7⟩)
 by_cases k3:kind=3
 ·subst k3
  have h1:(decide (op=15)||decide (op=16))=true:=h1
  simp only[Bool.or_eq_true,decide_eq_true_eq] at h1
  exact .inr (.inr (.inl ⟨rfl,h1,by have:1<=nk/\nk<=1:=h6;omega,h7⟩))
 by_cases k4:kind=4
 ·subst k4
  have h1:decide (1<=op/\op<=14)=true:=h1
  simp only[decide_eq_true_eq] at h1
  exact .inr (.inr (.inr (.inl ⟨rfl,h1,by have:2<=nk/\nk<=2:=h6;omega,h7⟩)))
 simp only[cD,if_neg k1,if_neg k2,if_neg k3,if_neg k4,decide_eq_true_eq] at h1
 rcases (show kind=5∨kind=6∨kind=7∨kind=8∨kind=9 by omega) with rfl|rfl|rfl|rfl|rfl
 ·exact .inr (.inr (.inr (.inr (.inl ⟨rfl,by have:1<=nk/\nk<=1:=h6;omega,h7⟩))))
 ·exact .inr (.inr (.inr (.inr (.inr (.inl ⟨rfl,by have:3<=nk/\nk<=3:=h6;omega,h7⟩)))))
 ·exact .inr (.inr (.inr (.inr (.inr (.inr (.inl ⟨rfl,h6,h7⟩))))))
 ·exact .inr (.inr (.inr (.inr (.inr (.inr (.inr (.inl ⟨rfl,by have:1<=nk/\nk<=1:=h6;omega,h7⟩)))))))
 ·exact .inr (.inr (.inr (.inr (.inr (.inr (.inr (.inr ⟨rfl,by have:0<=nk/\nk<=0:=h6;omega,h7⟩)))))))
theorem kU {gf:Expr->Bool} {kind op:Int} {not:Bool} {val:Val} {qual name:ByteArray} {kids:List Expr} {sub:List Query} (h:wt gf (.mk kind op not val qual name kids sub)=true) :
 aH kind op not val qual name kids.length sub.length=true/\(∀x∈kids,gf x=true)/\∀q∈sub,eZ gf q=true:=by
 simp only[wt,Bool.and_eq_true,List.all_eq_true] at h
 exact h
theorem fv {gf:Expr->Bool} {distinct:Bool} {items:List Item} {from_:List Source} {where_:List Expr} {order:List SortKey} {limit:Int} (h:eZ gf (.mk distinct items from_ where_ order limit)=true) :
 (1<=items.length/\items.length<=12)/\(1<=from_.length/\from_.length<=3)/\where_.length<=1/\order.length<=12 /\ -1<=limit/\(∀x∈items,qu x=true)/\(∀i (hi:i<from_.length),qK i from_[i]=true)/\∀x∈exprsQ (.mk distinct items from_ where_ order limit),gf x=true:=by
 simp only[eZ,C1,Bool.and_eq_true,List.all_eq_true,decide_eq_true_eq] at h
 obtain⟨⟨h1,h2,h3,h4,h5,h6,h7⟩,h8⟩:=h
 refine⟨h1,h2,h3,h4,h5,h6,fun i hi=>?_,h8⟩
 have:=List.all_eq_true.1 h7 i (List.mem_range.2 hi)
 rwa[ay hi] at this
theorem nA {α:Type} {l:List α} (h:(l.length:Int)=1):∃a,l=[a]:=by
 match l,h with
 | [a],_=>exact⟨a,rfl⟩
 | [],h=>simp at h
 |_::_::_,h=>simp at h;omega
theorem EF {α:Type} {l:List α} (h:(l.length:Int)=2):∃a b,l=[a,b]:=by
 match l,h with
 | [a,b],_=>exact⟨a,b,rfl⟩
 | [],h=>simp at h
 | [_],h=>simp at h
 |_::_::_::_,h=>simp at h;omega
theorem EG {α:Type} {l:List α} (h:(l.length:Int)=3):∃a b c,l=[a,b,c]:=by
 match l,h with
 | [a,b,c],_=>exact⟨a,b,c,rfl⟩
 | [],h=>simp at h
 | [_],h=>simp at h
 | [_,_],h=>simp at h
 |_::_::_::_::_,h=>simp at h;omega
section
variable {gn:Expr->Nat} {g:Expr->List Tok}
def dI (gn:Expr->Nat) (x:Item):Nat:=if x.star=true then 0 else 150*gn x.e
theorem CO {x:Item} (hx:qu x=true) (h:x.star=false->Sm (150*gn x.e) (g x.e)):Sm (3+dI gn x) (fu g x):=by
 obtain⟨star,qual,e,as_⟩:=x
 cases star with
 |true=>
  simp only[qu,if_true,Bool.and_eq_true] at hx
  show Sm _ (dY qual++[E1])
  exact ((xX hx.1).app (Sm.one (by decide))).le (Nat.le_add_right _ _)
 |false=>
  simp only[qu,Bool.false_eq_true,if_false,Bool.and_eq_true] at hx
  show Sm (3+150*gn e) (g e++f4 as_)
  exact ((h rfl).app (Dp hx.2)).le (by show 150*gn e+2<=_;omega)
theorem Bg:∀l:List Item,(l.map (dI gn)).sum=150*((aN l).map gn).sum
 | []=>rfl
 |.mk s q e a::r=>by
  have ih:=Bg r
  cases s with
  |true=>
   have h:aN (.mk true q e a::r)=aN r:=rfl
   rw[h,<-ih,List.map_cons,List.sum_cons]
   show 0+_=_;omega
  |false=>
   have h:aN (.mk false q e a::r)=e::aN r:=rfl
   rw[h,List.map_cons,List.sum_cons,List.map_cons,List.sum_cons,Nat.mul_add,<-ih]
   rfl
theorem EH {l:List Expr} (h:∀x∈l,Sm (150*gn x) (g x)):Sm (1+150*(l.map gn).sum) (vh g l):=by
 cases l with
 |nil=>exact Sm.nil.le (Nat.zero_le _)
 |cons e r=>exact (Sm.cons (bT _) (h e (by simp))).le (by rw[List.map_cons,List.sum_cons];omega)
theorem Dq {l:List Expr} (h:∀x∈l,Sm (150*gn x) (g x)):Sm (1+150*(l.map gn).sum) (p5 g l):=by
 cases l with
 |nil=>exact Sm.nil.le (Nat.zero_le _)
 |cons e r=>exact (Sm.cons (bT _) (h e (by simp))).le (by rw[List.map_cons,List.sum_cons];omega)
theorem E4 {x:Source} {i:Nat} (hx:qK i x=true) (h:∀y∈x.on,Sm (150*gn y) (g y)):Sm (5+150*(x.on.map gn).sum) (jV g i x):=by
 obtain⟨table,as_,on⟩:=x
 simp only[qK,Bool.and_eq_true,b9,decide_eq_true_eq] at hx
 show Sm (5+150*(on.map gn).sum) ((if 0<i then (if 0<on.length then [kT 4] else [kN]) else [])++(nT table::(f4 as_++vh g on)))
 exact ((Sm.ite (Sm.ite (Sm.one (bT _)) (Sm.one (by decide))) (Sm.nil.le (by omega):Sm 1 [])).app (Sm.cons (by show table.size<=40;omega) ((Dp hx.2.1).app (EH (l:=on) h)))).le (by omega)
theorem CP {x:SortKey} (h:Sm (150*gn x.e) (g x.e)):Sm (1+150*gn x.e) (wv g x):=by
 obtain⟨e,desc⟩:=x
 exact (Sm.app h (Sm.ite (Sm.one (bT _)) (Sm.nil.le (by omega):Sm 1 []))).le (by show 150*gn e+1<=1+150*gn e;omega)
theorem CQ (l:List Source):(l.map fun x=>150*(x.on.map gn).sum).sum=150*((l.flatMap Source.on).map gn).sum:=by
 induction l with
 |nil=>rfl
 |cons x r ih=>rw[List.map_cons,List.sum_cons,ih,List.flatMap_cons,List.map_append,List.sum_append,Nat.mul_add]
theorem po {α:Type} (c:Nat) (f:α->Nat) (l:List α):(l.map fun x=>c*f x).sum=c*(l.map f).sum:=by
 induction l with
 |nil=>rfl
 |cons x r ih=>rw[List.map_cons,List.sum_cons,ih,List.map_cons,List.sum_cons,Nat.mul_add]
theorem EI {gf:Expr->Bool} {q:Query} (hq:eZ gf q=true) (hl:q.lim<=9223372036854775807) (h:∀x∈exprsQ q,Sm (150*gn x) (g x)):Sm (105+150*((exprsQ q).map gn).sum) (jX g q):=by
 obtain⟨distinct,items,from_,where_,order,limit⟩:=q
 obtain⟨⟨_,a1⟩,⟨_,a2⟩,a3,a4,a5,a6,a7,_⟩:=fv hq
 have hl:limit<=9223372036854775807:=hl
 have e:exprsQ (.mk distinct items from_ where_ order limit)=aN items++from_.flatMap Source.on++where_++order.map SortKey.e:=rfl
 rw[e] at h ⊢
 have s1:Sm _ (bd (fG g items) items.length):=Sm.seq (b:=fun i=>4+kP (fun x=>dI gn x) items[i]?) fun i hi=>by
  have hm:=aI hi
  have:=CO (gn:=gn) (g:=g) (a6 _ hm) fun hs=>h _ (by
   simp only[List.mem_append,aN,List.mem_map,List.mem_filter]
   exact .inl (.inl (.inl ⟨_,⟨hm,by rw[hs];rfl⟩,rfl⟩)))
  show Sm _ (ea i++vG items (fu g) i)
  rw[bU hi]
  simp only[ay hi,kP]
  exact ((Sm.ite (Sm.one (by decide)) (Sm.nil.le (by omega):Sm 1 [])).app this).le (by omega)
 have s2:Sm _ (bd (gH g from_) from_.length):=Sm.seq (b:=fun i=>5+kP (fun x=>150*(x.on.map gn).sum) from_[i]?) fun i hi=>by
  have hm:=aI hi
  have:=E4 (gn:=gn) (g:=g) (a7 _ hi) fun y hy=>h _ (by
   simp only[List.mem_append,List.mem_flatMap]
   exact .inl (.inl (.inr ⟨_,hm,hy⟩)))
  show Sm _ (vG from_ (jV g i) i)
  rw[bU hi]
  simp only[ay hi,kP]
  exact this
 have s3:Sm _ (bd (jW g order) order.length):=Sm.seq (b:=fun i=>3+kP (fun x=>150*gn x.e) order[i]?) fun i hi=>by
  have hm:=aI hi
  have:=CP (gn:=gn) (g:=g) (x:=order[i]) (h _ (by
   simp only[List.mem_append,List.mem_map]
   exact .inr ⟨_,hm,rfl⟩))
  show Sm _ ((if i=0 then [kT 7,kT 8] else [kN])++vG order (wv g) i)
  rw[bU hi]
  simp only[ay hi,kP]
  exact ((Sm.ite (Sm.cons (bT _) (Sm.one (bT _))) ((Sm.one (by decide)).le (by omega))).app this).le (by omega)
 rw[fU items 4 (dI gn),Bg] at s1
 rw[fU from_ 5 (fun x=>150*(x.on.map gn).sum),CQ] at s2
 rw[fU order 3 (fun x=>150*gn x.e),show (fun x:SortKey=>150*gn x.e)=(fun x=>150*(fun y:SortKey=>gn y.e) x) from rfl,po] at s3
 have s4:Sm (1+150*(where_.map gn).sum) (p5 g where_):=Dq fun x hx=>h x (by simp [hx])
 have s5:Sm 2 (tg limit):=by
  unfold tg
  split
  ·exact Sm.cons (bT _) (Sm.one (oQ (by omega) hl))
  ·exact Sm.nil.le (by omega)
 have e2:((order.map SortKey.e).map gn).sum=(order.map fun y:SortKey=>gn y.e).sum:=by rw[List.map_map];rfl
 rw[List.map_append,List.map_append,List.map_append,List.sum_append,List.sum_append,List.sum_append,e2]
 exact (Sm.cons (bT _) ((Sm.ite (Sm.one (bT _)) (Sm.nil.le (by omega):Sm 1 [])).app (s1.app (Sm.cons (bT _) (s2.app (s4.app (s3.app s5))))))).le (by omega)
theorem CR {full:Bool} {gf:Expr->Bool} {e:Expr} (hf:wt gf e=true) (hr:Rg e) (h:∀x,eW x e->gf x=true->Rg x->Sm (150*gn x) (g x)):Sm (150*xR gn e) (p6 full g e):=by
 have hb:∀x,eW x e->Rg x:=fun x hx=>th hr hx
 have hsub:∀q∈e.sub,q.lim<=9223372036854775807:=fun q hq=>(ww hr hq).1
 obtain⟨kind,op,not,val,qual,name,kids,sub⟩:=e
 have hnum:=hr.num
 obtain⟨hs,hk,hq⟩:=kU hf
 have hkid:∀k (hk':k<kids.length),Sm (150*gn kids[k]+2) (bF full g kind op kids k):=fun k hk'=>by
  have hm:=aI hk'
  rw[bF,List.getD_eq_getElem?_getD,ay hk']
  exact E3 (h _ (.inl hm) (hk _ hm) (hb _ (.inl hm)))
 have hqs:∀q∈sub,Sm (105+150*((exprsQ q).map gn).sum) (jX g q):=fun q hm=>EI (hq q hm) (hsub q hm) fun x hx=>by
  obtain⟨d,it,fr,wh,od,li⟩:=q
  exact h x (.inr ⟨_,hm,hx⟩) ((fv (hq _ hm)).2.2.2.2.2.2.2 x hx) (hb _ (.inr ⟨_,hm,hx⟩))
 have en:xR gn (.mk kind op not val qual name kids sub)=1+(kids.map gn).sum+(sub.map fun q=>((exprsQ q).map gn).sum).sum:=rfl
 rw[en]
 rcases kQ hs with⟨rfl,hl,hk0,hs0⟩|⟨rfl,hn,hm,hk0,hs0⟩|⟨rfl,ho,hk0,hs0⟩|⟨rfl,ho,hk0,hs0⟩|⟨rfl,hk0,hs0⟩|⟨rfl,hk0,hs0⟩|⟨rfl,hk0,hs0⟩|⟨rfl,hk0,hs0⟩|⟨rfl,hk0,hs0⟩
 ·show Sm _ [fy val]
  exact (Sm.one (E2 hl hnum)).le (by omega)
 ·show Sm _ (dY qual++[nT name])
  simp only[b9,decide_eq_true_eq] at hn
  exact ((xX hm).app (Sm.one (by show name.size<=40;omega))).le (by omega)
 ·obtain⟨a,rfl⟩:=nA hk0
  show Sm _ (dj op::bF full g 3 op [a] 0)
  have k0:=hkid 0 (by simp)
  exact (Sm.cons (rO _) k0).le (by simp;omega)
 ·obtain⟨a,b,rfl⟩:=EF hk0
  show Sm _ (bF full g 4 op [a,b] 0++(dj op::bF full g 4 op [a,b] 1))
  have k0:=hkid 0 (by simp)
  have k1:=hkid 1 (by simp)
  exact (k0.app (Sm.cons (rO _) k1)).le (by simp;omega)
 ·obtain⟨a,rfl⟩:=nA hk0
  show Sm _ (bF full g 5 op [a] 0++(kT 16::(bP not++[kT 20])))
  have k0:=hkid 0 (by simp)
  exact (k0.app (Sm.cons (bT _) ((tj _).app (Sm.one (bT _))))).le (by simp;omega)
 ·obtain⟨a,b,c,rfl⟩:=EG hk0
  show Sm _ (bF full g 6 op [a,b,c] 0++(bP not++(kT 18::(bF full g 6 op [a,b,c] 1++(kT 13::bF full g 6 op [a,b,c] 2)))))
  have k0:=hkid 0 (by simp)
  have k1:=hkid 1 (by simp)
  have k2:=hkid 2 (by simp)
  exact (k0.app ((tj _).app (Sm.cons (bT _) (k1.app (Sm.cons (bT _) k2))))).le (by simp;omega)
 ·obtain⟨a,r,rfl⟩:∃a r,kids=a::r:=by
   cases kids with
   |nil=>simp at hk0
   |cons a r=>exact⟨a,r,rfl⟩
  show Sm _ (bF full g 7 op (a::r) 0++(bP not++(kT 17::lG::(bd (r3 full g 7 op (a::r)) r.length++[lH]))))
  have k0:=hkid 0 (by simp)
  have s1:Sm _ (bd (r3 full g 7 op (a::r)) r.length):=Sm.seq (b:=fun i=>3+kP (fun x=>150*gn x) r[i]?) fun i hi=>by
   have k1:=hkid (i+1) (by simpa using hi)
   simp only[ay hi,kP]
   exact ((Sm.ite (Sm.one (by decide)) (Sm.nil.le (by omega):Sm 1 [])).app k1).le (by simp;omega)
  rw[fU r 3 (fun x=>150*gn x),po] at s1
  have hr8:r.length<=8:=by simp at hk0;omega
  exact (k0.app ((tj _).app (Sm.cons (bT _) (Sm.cons (by decide) (s1.app (Sm.one (by decide))))))).le (by simp;omega)
 ·obtain⟨a,rfl⟩:=nA hk0
  obtain⟨q,rfl⟩:=nA hs0
  show Sm _ (bF full g 8 op [a] 0++(bP not++(kT 17::lG::(jX g q++[lH]))))
  have k0:=hkid 0 (by simp)
  have s1:=hqs q (by simp)
  exact (k0.app ((tj _).app (Sm.cons (bT _) (Sm.cons (by decide) (s1.app (Sm.one (by decide))))))).le (by simp;omega)
 ·obtain⟨q,rfl⟩:=nA hs0
  show Sm _ (kT 19::lG::(jX g q++[lH]))
  have s1:=hqs q (by simp)
  exact (Sm.cons (bT _) (Sm.cons (by decide) (s1.app (Sm.one (by decide))))).le (by simp;omega)
end
theorem E5 (full:Bool) (e:Expr):fmE e=true->Rg e->Sm (150*iw e) (nz full e):=
 mw (F1:=wt) (F2:=xR) (F3:=p6 full) (P:=fun e f n t=>f=true->Rg e->Sm (150*n) t) (fun e gf gn g hg hf hr=>CR hf hr hg) e
theorem qw (c:UInt8) (s:ByteArray):(jl c s).size<=2*s.size+2:=by
 have:=jm c s.data.toList
 rw[aG] at this
 show ((c::(eb c s.data.toList++[c])).toArray).size<=_
 rw[List.size_toArray,List.length_cons,aA,List.length_singleton];omega
theorem CS {t:Tok} (h:t.text.size<=40):(cU t).size<=300:=by
 have h2:=qw 34 t.text
 have h3:=qw 39 t.text
 unfold cU lK
 (repeat' split)<;>first|omega|exact Nat.zero_le _
theorem E6 {l:List Tok} {n:Nat} (h:Sm n l) (i:Nat):(jn l i).length<=400:=by
 unfold jn
 split
 ·rename_i hi
  have:=CS (h.2 _ (aI hi))
  rw[aA,aG]
  split<;>simp<;>omega
 ·simp
theorem Bh {l:List Tok} {n:Nat} (h:Sm n l) (hn:n<=100000):(ge l l.length).length<=50000000:=by
 suffices H:∀k,(ge l k).length<=400*k from Nat.le_trans (H _) (by have:=h.1;omega)
 intro k
 induction k with
 |zero=>exact Nat.zero_le _
 |succ k ih=>rw[dd,aA];have:=E6 h k;omega
theorem cX (l:List Tok) (k:Int) (s:ByteArray) (a:Int):l.flatMap Tok.row++[int k,str s,int a]=(l++[Tok.mk k s a]).flatMap Tok.row:=by rw[List.flatMap_append];rfl
theorem r4 (l:List Tok) (k:Int) (s:ByteArray) (a:Int) (k':Int) (s':ByteArray) (a':Int):l.flatMap Tok.row++[int k,str s,int a,int k',str s',int a']=(l++[Tok.mk k s a,Tok.mk k' s' a']).flatMap Tok.row:=by rw[List.flatMap_append];rfl
theorem cE (l:List Tok) (t:Tok):l.length+1=(l++[t]).length:=by simp
theorem pb (l:List Tok) (t u:Tok):l.length+2=(l++[t,u]).length:=by simp
theorem my {l m:List Tok} (h:l=m):(S.c (.ow 76 (l).length ((l).flatMap Tok.row) none):S) = .c (.ow 76 (m).length ((m).flatMap Tok.row) none):=by rw[h]
theorem i7 {l m:List Tok} {x:C} (h:l=m):([[.ow 76 (l).length ((l).flatMap Tok.row) none,x]]:List (List C))=[[.ow 76 (m).length ((m).flatMap Tok.row) none,x]]:=by rw[h]
theorem CU {a b:Tok} (h:a=b):(S.ag (av a.row):S) = .ag (av b.row):=by rw[h]
theorem bb (k:Nat) (h1:1<=k) (h2:k<=28):Cl Tryz.prog 247 [vi k] [] fun r _=>r = .ag (av (kT k).row):=by
 refine ae ab false Tryz.func247 rfl (by kernel_rfl) ?_
 simp only[Tryz.f247,tt,seval]
 refine cZ (rj k h1 h2) ?_ ?_<;>simp only[tt,seval]
 exact⟨_,_,rfl,ai rfl⟩
theorem aY (s:ByteArray):Cl Tryz.prog 221 [vs s] [] fun r _=>r = .ag (av (gT s).row):=by
 refine ae ab false Tryz.func221 rfl (by kernel_rfl) ?_
 simp only[Tryz.f221,tt,seval]
 exact⟨_,_,rfl,ai rfl⟩
theorem cy (s:ByteArray):Cl Tryz.prog 248 [vs s] [] fun r _=>r = .ag (av (nT s).row):=by
 refine ae ab false Tryz.func248 rfl (by kernel_rfl) ?_
 simp only[Tryz.f248,tt,seval]
 exact⟨_,_,rfl,ai rfl⟩
theorem tl (op:Int):Cl Tryz.prog 157 [vi op] [] fun r _=>r = .ag (av (dj op).row):=by
 refine ae ab false Tryz.func157 rfl (by kernel_rfl) ?_
 simp only[Tryz.f157,tt,seval]
 by_cases h1:op=1
 ·simp only[tt,seval,ap h1]
  refine cZ (mJ op) ?_ ?_<;>simp only[tt,seval]
  exact⟨_,_,CU (by rw[dj,if_pos (.inl h1)]),ai rfl⟩
 simp only[tt,seval,ao h1]
 by_cases h2:op=2
 ·simp only[tt,seval,ap h2]
  refine cZ (mJ op) ?_ ?_<;>simp only[tt,seval]
  exact⟨_,_,CU (by rw[dj,if_pos (.inr (.inl h2))]),ai rfl⟩
 simp only[tt,seval,ao h2]
 refine aa (fun h3=>?_) (fun h3=>?_)
 ·skip
  refine cZ (mJ op) ?_ ?_<;>simp only[tt,seval]
  exact⟨_,_,CU (by rw[dj,if_pos (.inr (.inr h3))]),ai rfl⟩
 refine cZ (mJ op) ?_ ?_<;>simp only[tt,seval]
 refine cZ (aY (oH op)) ?_ ?_<;>simp only[tt,seval,gT,Tok.row]
 exact⟨_,_,CU (by rw[dj,if_neg (fun h=>h.elim h1 fun h=>h.elim h2 h3)]),ai rfl⟩
theorem Bi (v:Val) (h0 : -9223372036854775808<=v.num) (h1:v.num<=9223372036854775807):Cl Tryz.prog 286 [.ag (av v.row)] [] fun r _=>r = .ag (av (fy v).row):=by
 rw[Val.row]
 refine ae ab false Tryz.func286 rfl (by kernel_rfl) ?_
 simp only[Tryz.f286,tt,seval]
 refine aa (fun k1=>?_) (fun k1=>?_)
 ·skip
  refine cZ (pH v.num h0 h1) ?_ ?_<;>simp only[tt,seval]
  exact⟨_,_,CU (by rw[fy,if_pos k1]),ai rfl⟩
 refine aa (fun k2=>?_) (fun k2=>?_)
 ·exact⟨_,_,CU (by rw[fy,if_neg k1,if_pos k2]),ai rfl⟩
 refine aa (fun k3=>?_) (fun k3=>?_)
 ·refine aa (fun k4=>?_) (fun k4=>?_)
  ·skip
   refine cZ (bb 21 (by omega) (by omega)) ?_ ?_<;>simp only[tt,seval,kT,Tok.row]
   exact⟨_,_,CU (by rw[fy,if_neg k1,if_neg k2,if_pos k3,if_pos k4]),ai rfl⟩
  ·skip
   refine cZ (bb 22 (by omega) (by omega)) ?_ ?_<;>simp only[tt,seval,kT,Tok.row]
   exact⟨_,_,CU (by rw[fy,if_neg k1,if_neg k2,if_pos k3,if_neg k4]),ai rfl⟩
 refine cZ (bb 20 (by omega) (by omega)) ?_ ?_<;>simp only[tt,seval,kT,Tok.row]
 exact⟨_,_,CU (by rw[fy,if_neg k1,if_neg k2,if_neg k3]),ai rfl⟩
theorem nB (out:List Tok) (e:Expr) (h:out.length<=1000000):Cl Tryz.prog 288 [.c (.ow 76 (out).length ((out).flatMap Tok.row) none),.ag (av e.row)] [] fun r _=>r = .c (.ow 76 (out++bP e.not).length ((out++bP e.not).flatMap Tok.row) none):=by
 obtain⟨kind,op,not,val,qual,name,kids,sub⟩:=e
 rw[ah]
 refine ae ab false Tryz.func288 rfl (by kernel_rfl) ?_
 simp only[Tryz.f288,tt,seval]
 cases not
 case true=>
  simp only[tt,seval]
  refine cZ (bb 15 (by omega) (by omega)) ?_ ?_<;>simp only[tt,seval,kT,Tok.row]
  refine⟨by kernel_rfl,⟨by simp only[maxLen];(try simp only[ll] at *);omega,by (try simp only[ll] at *);omega⟩,?_⟩
  rw[cX (out),cE (out) (Tok.mk 1 (kw 15) 0)]
  refine⟨_,[],my (l:=out++[(Tok.mk 1 (kw 15) 0)]) (by rfl),am ?_⟩
  simp only[tt,seval]
 case false=>
  simp only[tt,seval]
  refine⟨_,[],my (l:=out) (by exact (List.append_nil _).symm),am ?_⟩
  simp only[tt,seval]
theorem nC (out:List Tok) (a:ByteArray) (h:out.length<=1000000):Cl Tryz.prog 317 [.c (.ow 76 (out).length ((out).flatMap Tok.row) none),vs a] [] fun r _=>r = .c (.ow 76 (out++f4 a).length ((out++f4 a).flatMap Tok.row) none):=by
 refine ae ab false Tryz.func317 rfl (by kernel_rfl) ?_
 simp only[Tryz.f317,tt,seval]
 refine aa (fun ha=>?_) (fun ha=>?_)
 ·skip
  refine⟨_,[],my (l:=out) (by rw[f4,if_pos ha,List.append_nil]),am ?_⟩
  simp only[tt,seval]
 ·try simp only[tt,seval]
  refine cZ (bb 12 (by omega) (by omega)) ?_ ?_<;>simp only[tt,seval,kT,Tok.row]
  refine cZ (cy a) ?_ ?_<;>simp only[tt,seval,nT,Tok.row]
  refine⟨by kernel_rfl,⟨by simp only[maxLen];(try simp only[ll] at *);omega,by (try simp only[ll] at *);omega⟩,?_⟩
  rw[r4 (out),pb (out) (Tok.mk 1 (kw 12) 0) (Tok.mk 2 a 0)]
  refine⟨_,[],my (l:=out++[(Tok.mk 1 (kw 12) 0),(Tok.mk 2 a 0)]) (by rw[f4,if_neg ha];rfl),am ?_⟩
  simp only[tt,seval]
def r5 (full:Bool) (e:Expr) (l:List Tok):Prop:=∀out:List Tok,out.length+l.length<=1000000->Cl Tryz.prog 250 [.c (.ow 76 (out).length ((out).flatMap Tok.row) none),.ag (av e.row),vb full] [] fun r _=>r = .c (.ow 76 (out++l).length ((out++l).flatMap Tok.row) none)
end Go.Proofs.YteffjmaadkkmeaaGreatDoor
