/-
  Statements: sizes, sources, printing.
  Conditions: none.
-/
import Derived.Test.YteffjmaadkkmeaaGreatDoorRPJ3
import Derived.Test.YteffjmaadkkmeaaGreatDoorRPH
import Derived.Test.YteffjmaadkkmeaaGreatDoorRPX1
set_option linter.unusedVariables false
set_option linter.unusedSimpArgs false
set_option linter.unusedSectionVars false
set_option maxRecDepth 8000
namespace Go.Proofs.YteffjmaadkkmeaaGreatDoor
open Go Go.Dv
open Go.Vc (D cY d3 cN bk)
section
variable {L:List Tok} {f:Nat->PM Expr} {q:PM Query}
theorem Dd (l:List Expr):f7 (.mk l)=dZ (iN aw) l:=by rw[rl,lu]
theorem Wz.row (hf:∀lv,Wt (f lv) aw 8):Wt (lC L f) f7 9:=fun s x s' h=>by
 unfold lC at h
 split at h
 ·cases h
 ·rename_i y s1 h1
  injection h with h;injection h with hx h;subst hx h
  have a1:=Wz.ors hf _ _ _ h1
  have m1:=dJ (b3 L s 40) s
  have m2:=dJ (b3 L s1 41) s1
  rw[Dd]
  omega
theorem Wz.rows (hf:∀lv,Wt (f lv) aw 8):Wt (lP L f) (dZ (iN f7)) 10:=fun s x s' h=>by
 unfold lP at h
 split at h
 ·cases h
 ·rename_i y s1 h1
  have a1:=Wz.row hf _ _ _ h1
  have a2:=Wz.sep (by omega) (Wt.up (Wz.row hf)) _ _ _ _ _ h
  simp only[dZ,iN] at *
  omega
def y4 (x:ByteArray×Expr):Nat:=x.1.size+aw x.2+2
theorem Wz.set1 (h40:∀t∈L,t.text.size<=40) (hf:∀lv,Wt (f lv) aw 8):Wt (km L f) y4 10:=fun s x s' h=>by
 unfold km at h
 simp only at h
 split at h
 ·cases h
 ·rename_i y s1 h1
  injection h with h;injection h with hx h;subst hx h
  have m1:=(jH h40 2 s).2
  have m2:=dJ (b3 L (mText L 2 s).2 61) (mText L 2 s).2
  have a1:=hf 1 _ _ _ h1
  show (mText L 2 s).1.size+aw y+2+64*s.a<=10+64*s1.a
  omega
theorem Wz.sets (h40:∀t∈L,t.text.size<=40) (hf:∀lv,Wt (f lv) aw 8):Wt (mR L f) (dZ y4) 10:=fun s x s' h=>by
 unfold mR at h
 split at h
 ·cases h
 ·rename_i y s1 h1
  have a1:=Wz.set1 h40 hf _ _ _ h1
  have a2:=Wz.sep (by omega) (Wz.set1 h40 hf) _ _ _ _ _ h
  simp only[dZ] at *
  omega
theorem sb:∀l:List (ByteArray×Expr),fX (l.map (·.1))+dZ (iN aw) (l.map (·.2))=dZ y4 l
 | []=>rfl
 |x::r=>by
  have:=sb r
  unfold fX at *
  simp only[List.map_cons,List.length_cons,List.sum_cons,dZ,y4,iN] at *
  omega
theorem sc:aP zQuery=0:=by rw[zQuery,Bz];rfl
theorem fV (k:Int) (q:Query) (t:ByteArray) (r:List ERow) (c:List ByteArray) (e w:List Expr):bR (.mk k q t r c e w)=aP q+t.size+dZ (iN f7) r+(fX c+dZ (iN aw) e)+dZ (iN aw) w:=by
 rw[ey,lu,lu,ee,mz];omega
theorem zp:fX []=0:=rfl
theorem Wz.stmt (h40:∀t∈L,t.text.size<=40) (hf:∀lv,Wt (f lv) aw 8) (hq:Wt q aP 15):Wt (gR L f q) bR 40:=fun s x s' h=>by
 unfold gR at h
 split at h
 ·split at h
  ·cases h
  rename_i y s1 h1
  injection h with h;injection h with hx h;subst hx h
  have a1:=hq _ _ _ h1
  rw[fV,zp]
  simp only[dZ,z0,bO];omega
 split at h
 ·unfold gE at h
  simp only at h
  have m1:=dJ (au L (adv s) 24) (adv s)
  generalize must (au L (adv s) 24) (adv s)=u1 at *
  have m2:=(jH h40 2 u1).2
  generalize (mText L 2 u1).2=u2 at *
  generalize (mText L 2 u1).1=tb at *
  have m3:=dJ (au L u2 25) u2
  split at h
  ·cases h
  rename_i y s1 h1
  injection h with h;injection h with hx h;subst hx h
  have a1:=Wz.rows hf _ _ _ h1
  rw[fV,sc,zp]
  rw[d9] at m1
  simp only[dZ];omega
 split at h
 ·unfold gF at h
  simp only at h
  have m1:=(jH h40 2 (adv s)).2
  generalize (mText L 2 (adv s)).2=u1 at *
  generalize (mText L 2 (adv s)).1=tb at *
  have m2:=dJ (au L u1 27) u1
  split at h
  ·cases h
  rename_i y s1 h1
  split at h
  ·cases h
  rename_i z s2 h2
  injection h with h;injection h with hx h;subst hx h
  have a1:=Wz.sets h40 hf _ _ _ h1
  have a2:=Wz.wher hf _ _ _ h2
  rw[fV,sc,sb]
  rw[d9] at m1
  simp only[dZ];omega
 split at h
 ·unfold ik at h
  simp only at h
  have m1:=dJ (au L (adv s) 3) (adv s)
  generalize must (au L (adv s) 3) (adv s)=u1 at *
  have m2:=(jH h40 2 u1).2
  generalize (mText L 2 u1).2=u2 at *
  generalize (mText L 2 u1).1=tb at *
  split at h
  ·cases h
  rename_i y s1 h1
  injection h with h;injection h with hx h;subst hx h
  have a1:=Wz.wher hf _ _ _ h1
  rw[fV,sc,zp]
  rw[d9] at m1
  simp only[dZ];omega
 ·injection h with h;injection h with hx h;subst hx h
  rw[bw,fV,sc,zp]
  simp only[dZ,z0,bO,fl];omega
theorem qF (h40:∀t∈L,t.text.size<=40) (hL:L.length<=2000):bR (bA L).1<=200000:=by
 have hz:bR bw<=200000:=by
  rw[bw,fV,sc,zp]
  simp only[dZ,z0,bO];omega
 unfold bA
 cases h:gR L (kj L) (kl L) s0 with
 |none=>exact hz
 |some p=>
  obtain⟨x,s⟩:=p
  have h1:=Wz.stmt h40 (vt h40 (pD L)).1 (vt h40 (pD L)).2 _ _ _ h
  have h2:=(OkM.stmt (fun lv=>gS (L:=L) lv) iV _ _ _ h).2.1 (Nat.zero_le _)
  unfold il
  simp only
  split
  ·exact hz
  ·show bR x<=_
   omega
end
noncomputable def be:ByteArray->Stmt×(Int×Int):=oy bw bA dw
set_option maxHeartbeats 2000000 in
theorem vA (s:ByteArray) (hs:s.size<=1048576):Cl Tryz.prog 34 [vs s] [] fun r _=>r = .tu [(av (be s).1.row,false),(f6 (be s).2,false)]:=by
 have cl:=EB s hs
 refine ae ab false Tryz.func34 rfl (by kernel_rfl) ?_
 simp only[Tryz.f34,tt,seval]
 cases hlx:iE s with
 |inr p=>
  have e:be s=(bw,(1,(p:Int))):=by unfold be oy;rw[hlx]
  rw[hlx] at cl
  rw[e]
  have h0:(0<=(p:Int))=True:=eq_true (by omega)
  refine cZ (cl) ?_ ?_<;>simp only[tt,seval,qX]
  simp only[tt,seval,h0]
  refine⟨.tu [(av (bw).row,false),(f6 (1,(p:Int)),false)],[],rfl,am ?_⟩
  simp only[tt,seval,f6,Stmt.row_mk,ar,zQuery,dx,z0,ar,bw]
 |inl L=>
  obtain⟨hL2,hok⟩:=nE hlx
  have hL:L.length<=1048576:=by omega
  have h40:∀t∈L,t.text.size<=40:=fun t ht=>BA (hok t ht)
  have hT:∀t∈L,t.text.size<=1048576:=fun t ht=>Nat.le_trans (h40 t ht) (by omega)
  have e:be s=(if 0<=(bA L).2 then bw else if dw (bA L).1=true then (bA L).1 else bw,qL L s.size (bA L).2 (dw (bA L).1)):=by unfold be oy;rw[hlx]
  have hsz:=qF h40 hL2
  have ct:=wM L hL hT
  rw[hlx] at cl
  rw[e]
  generalize (bA L).2=i at *
  generalize (bA L).1=x at *
  have ck:=vp x (by omega)
  obtain⟨kz,⟨dz,iz,fz,wz,oz,lz⟩,tz,rz,cz,sz,hz⟩:=x
  simp only[Stmt.row_mk,ar,ar,lc] at ct ck
  refine cZ (cl) ?_ ?_<;>simp only[tt,seval,qX]
  refine cZ (ct) ?_ ?_<;>simp only[tt,seval]
  by_cases hi:0<=i
  ·have h0:(0<=i)=True:=eq_true hi
   simp only[tt,seval,h0]
   have cf:=wD L hL hT i hi s
   have ef:qL L s.size i (dw (Stmt.mk kz (Query.mk dz iz fz wz oz lz) tz rz cz sz hz))=(2,pc L s.size i):=if_pos hi
   rw[ef]
   refine cZ (cf) ?_ ?_<;>simp only[tt,seval,f6]
   refine⟨.tu [(av (bw).row,false),(f6 (2,pc L s.size i),false)],[],rfl,am ?_⟩
   simp only[tt,seval,f6,Stmt.row_mk,ar,zQuery,dx,z0,ar,bw]
  ·have h0:(0<=i)=False:=eq_false hi
   simp only[tt,seval,h0]
   refine cZ (ck) ?_ ?_<;>simp only[tt,seval]
   cases ho:dw (Stmt.mk kz (Query.mk dz iz fz wz oz lz) tz rz cz sz hz) with
   |true=>
    have ef:qL L s.size i true=(0,0):=by unfold qL;rw[if_neg hi,if_pos rfl]
    rw[ef]
    simp only[tt,seval]
    refine⟨.tu [(av (Stmt.mk kz (Query.mk dz iz fz wz oz lz) tz rz cz sz hz).row,false),(f6 (0,0),false)],[],rfl,am ?_⟩
    simp only[tt,seval,f6,Stmt.row_mk,ar,ar]
   |false=>
    have ef:qL L s.size i false=(3,0):=by unfold qL;rw[if_neg hi,if_neg (by simp)]
    rw[ef]
    simp only[tt,seval]
    refine⟨.tu [(av (bw).row,false),(f6 (3,0),false)],[],rfl,am ?_⟩
    simp only[tt,seval,f6,Stmt.row_mk,ar,zQuery,dx,z0,ar,bw]
end Go.Proofs.YteffjmaadkkmeaaGreatDoor
set_option maxRecDepth 8000
namespace Go.Proofs.YteffjmaadkkmeaaGreatDoor
open Go Go.Dv Go.Cv
open Go.Vc (D cY d3 cN bk)
set_option maxHeartbeats 2000000 in
theorem vB (L:List Tok) (hL:L.length<=1048576) (hT:∀t∈L,t.text.size<=1048576) (h40:∀t∈L,t.text.size<=40) (hL2:L.length<=2000):Cl Tryz.prog 82 [.c (.sl L.length (L.flatMap Tok.row) none),.c (.p 9000 0)] [[.v (.int .i64 0),.v (.bool false),.v (.slice none 0 0),.v (.slice none 0 0),.v (.slice none 0 0),.v (.slice none 0 0),.v (.int .i64 0),.v (.string ByteArray.empty),.v (.slice none 0 0),.v (.slice none 0 0),.v (.slice none 0 0),.v (.slice none 0 0)]] fun r os=>r = .tu [([.v (.int .i64 (bA L).2)],true),([.v (.bool (dw (bA L).1))],true)]/\∃Fi Ff Fw Fo Fr Fc Fe Fx,os=[aB (bA L).1.row [Fi,Ff,Fw,Fo,Fr,Fc,Fe,Fx]]:=by
 have hsz:=qF h40 hL2
 have ct:=vz L hL hT
 generalize (bA L).2=i at *
 generalize (bA L).1=x at *
 have ck:=rR x (by omega)
 obtain⟨kz,⟨dz,iz,fz,wz,oz,lz⟩,tz,rz,cz,sz,hz⟩:=x
 simp only[Stmt.row_mk,ar,dx,ar,lc,aB,lc] at ct ck ⊢
 refine ae ab true Tryz.func82 rfl (by kernel_rfl) ?_
 simp only[Tryz.f82,tt,seval]
 refine hJ (ct) ?_ ?_ ?_
 ·decide
 ·simp only[tt,seval]
 rintro r ⟨Fi,Ff,Fw,Fo,Fr,Fc,Fe,Fx,rfl⟩
 simp only[tt,seval]
 refine cZ (ck) ?_ ?_<;>simp only[tt,seval]
 refine⟨.tu [([.v (.int .i64 i)],true),([.v (.bool (dw (Stmt.mk kz (Query.mk dz iz fz wz oz lz) tz rz cz sz hz)))],true)],[aB (Stmt.mk kz (Query.mk dz iz fz wz oz lz) tz rz cz sz hz).row [Fi,Ff,Fw,Fo,Fr,Fc,Fe,Fx]],⟨rfl,Fi,Ff,Fw,Fo,Fr,Fc,Fe,Fx,by first|rfl|simp only[Stmt.row_mk,ar,ar,aB,lc]⟩,am ?_⟩
 simp only[tt,seval,Stmt.row_mk,ar,ar,aB]
 first|done|((try refine⟨by omega,?_⟩);exact aK fun x=>by (try simp only[List.flatten_append,List.count_append]);omega)
theorem tH (s:ByteArray) (hs:s.size<=1048576) (p:Nat) (hlx:iE s = .inr p):Cl Tryz.prog 75 [vs s,.c (.fn 82 [] [9000])] [[.v (.int .i64 0),.v (.bool false),.v (.slice none 0 0),.v (.slice none 0 0),.v (.slice none 0 0),.v (.slice none 0 0),.v (.int .i64 0),.v (.string ByteArray.empty),.v (.slice none 0 0),.v (.slice none 0 0),.v (.slice none 0 0),.v (.slice none 0 0)]] fun r os=>r = .ag (f6 (1,(p:Int)))/\os=[[.v (.int .i64 0),.v (.bool false),.v (.slice none 0 0),.v (.slice none 0 0),.v (.slice none 0 0),.v (.slice none 0 0),.v (.int .i64 0),.v (.string ByteArray.empty),.v (.slice none 0 0),.v (.slice none 0 0),.v (.slice none 0 0),.v (.slice none 0 0)]]:=by
 have cl:=B5 s hs
 rw[hlx] at cl
 have h0:(0<=(p:Int))=True:=eq_true (by omega)
 refine ae ab true Tryz.func75 rfl (by kernel_rfl) ?_
 simp only[Tryz.f75,tt,seval]
 refine cZ (cl) ?_ ?_<;>simp only[tt,seval,qX]
 simp only[tt,seval,h0]
 refine⟨.ag (f6 (1,(p:Int))),[[.v (.int .i64 0),.v (.bool false),.v (.slice none 0 0),.v (.slice none 0 0),.v (.slice none 0 0),.v (.slice none 0 0),.v (.int .i64 0),.v (.string ByteArray.empty),.v (.slice none 0 0),.v (.slice none 0 0),.v (.slice none 0 0),.v (.slice none 0 0)]],⟨rfl,rfl⟩,am ?_⟩
 simp only[tt,seval,f6]
 first|done|exact Sb.refl _|((try refine⟨by omega,?_⟩);exact aK fun x=>by (try simp only[fb]);omega)
set_option maxHeartbeats 4000000 in
theorem tI (s:ByteArray) (hs:s.size<=1048576) (L:List Tok) (hlx:iE s = .inl L):Cl Tryz.prog 75 [vs s,.c (.fn 82 [] [9000])] [[.v (.int .i64 0),.v (.bool false),.v (.slice none 0 0),.v (.slice none 0 0),.v (.slice none 0 0),.v (.slice none 0 0),.v (.int .i64 0),.v (.string ByteArray.empty),.v (.slice none 0 0),.v (.slice none 0 0),.v (.slice none 0 0),.v (.slice none 0 0)]] fun r os=>r = .ag (f6 (qL L s.size (bA L).2 (dw (bA L).1)))/\∃Fi Ff Fw Fo Fr Fc Fe Fx,os=[aB (bA L).1.row [Fi,Ff,Fw,Fo,Fr,Fc,Fe,Fx]]:=by
 have cl:=B5 s hs
 obtain⟨hL2,hok⟩:=nE hlx
 have hL:L.length<=1048576:=by omega
 have h40:∀t∈L,t.text.size<=40:=fun t ht=>BA (hok t ht)
 have hT:∀t∈L,t.text.size<=1048576:=fun t ht=>Nat.le_trans (h40 t ht) (by omega)
 have ct:=vB L hL hT h40 hL2
 have hb:((bA L).2 = -1∨0<=(bA L).2)/\(bA L).2<=L.length:=BC
 rw[hlx] at cl
 generalize (bA L).2=i at *
 generalize (bA L).1=x at *
 obtain⟨kz,⟨dz,iz,fz,wz,oz,lz⟩,tz,rz,cz,sz,hz⟩:=x
 simp only[Stmt.row_mk,ar,dx,ar,lc,aB,lc] at ct ⊢
 refine ae ab true Tryz.func75 rfl (by kernel_rfl) ?_
 simp only[Tryz.f75,tt,seval]
 refine cZ (cl) ?_ ?_<;>simp only[tt,seval,qX]
 refine CallQ.intro (ct) ?_ ?_ ?_
 ·decide
 ·simp only[tt,seval]
 rintro r os ⟨rfl,Fi,Ff,Fw,Fo,Fr,Fc,Fe,Fx,rfl⟩ hos
 simp only[tt,seval]
 refine fun _=>?_
 by_cases hi:i=L.length
 ·have h0:(i=(L.length:Int))=True:=eq_true hi
  have ef:qL L s.size i (dw (Stmt.mk kz (Query.mk dz iz fz wz oz lz) tz rz cz sz hz))=(2,(s.size:Int)):=by
   unfold qL pc
   rw[if_pos (by omega),if_neg (by omega)]
  rw[ef]
  simp only[tt,seval,h0]
  refine fun _=>?_
  refine⟨.ag (f6 (2,(s.size:Int))),[aB (Stmt.mk kz (Query.mk dz iz fz wz oz lz) tz rz cz sz hz).row [Fi,Ff,Fw,Fo,Fr,Fc,Fe,Fx]],⟨rfl,Fi,Ff,Fw,Fo,Fr,Fc,Fe,Fx,by first|rfl|simp only[Stmt.row_mk,ar,ar,aB,lc]⟩,am ?_⟩
  simp only[tt,seval,f6,Stmt.row_mk,ar,ar,aB]
  first|done|((try refine⟨by omega,?_⟩);exact aK fun x=>by (try simp only[List.flatten_append,List.count_append]);omega)
 ·have h0:(i=(L.length:Int))=False:=eq_false hi
  simp only[tt,seval,h0]
  by_cases h1:0<=i
  ·have h1':(0<=i)=True:=eq_true h1
   obtain⟨j,rfl⟩:∃j:Nat,i=j:=⟨i.toNat,by omega⟩
   have hl:j<L.length:=by omega
   have hx:L[j]?=some L[j]:=ay hl
   have ef:qL L s.size (j:Int) (dw (Stmt.mk kz (Query.mk dz iz fz wz oz lz) tz rz cz sz hz))=(2,(L[j]).at_):=by
    unfold qL pc
    rw[if_pos h1,if_pos (by omega),Int.toNat_natCast,List.getD_eq_getElem?_getD,hx];rfl
   have i0:((0:Int)<=(j:Int))=True:=eq_true (by omega)
   have iL:((j:Int)<(L.length:Int))=True:=eq_true (by omega)
   have iT:(j<L.length)=True:=eq_true hl
   rw[ef]
   generalize L[j]=tk at *
   simp only[tt,seval,h1',bi hx kh,iL,Tok.row]
   refine⟨.ag (f6 (2,tk.at_)),[aB (Stmt.mk kz (Query.mk dz iz fz wz oz lz) tz rz cz sz hz).row [Fi,Ff,Fw,Fo,Fr,Fc,Fe,Fx]],⟨rfl,Fi,Ff,Fw,Fo,Fr,Fc,Fe,Fx,by first|rfl|simp only[Stmt.row_mk,ar,ar,aB,lc]⟩,am ?_⟩
   simp only[tt,seval,f6,Stmt.row_mk,ar,ar,aB]
   first|done|((try refine⟨by omega,?_⟩);exact aK fun x=>by (try simp only[List.flatten_append,List.count_append]);omega)
  ·have h1':(0<=i)=False:=eq_false h1
   simp only[tt,seval,h1']
   cases ho:dw (Stmt.mk kz (Query.mk dz iz fz wz oz lz) tz rz cz sz hz) with
   |true=>
    have ef:qL L s.size i true=(0,0):=by unfold qL;rw[if_neg h1,if_pos rfl]
    rw[ef]
    simp only[tt,seval]
    refine⟨.ag (f6 (0,0)),[aB (Stmt.mk kz (Query.mk dz iz fz wz oz lz) tz rz cz sz hz).row [Fi,Ff,Fw,Fo,Fr,Fc,Fe,Fx]],⟨rfl,Fi,Ff,Fw,Fo,Fr,Fc,Fe,Fx,by first|rfl|simp only[Stmt.row_mk,ar,ar,aB,lc]⟩,am ?_⟩
    simp only[tt,seval,f6,Stmt.row_mk,ar,ar,aB]
    first|done|((try refine⟨by omega,?_⟩);exact aK fun x=>by (try simp only[List.flatten_append,List.count_append]);omega)
   |false=>
    have ef:qL L s.size i false=(3,0):=by unfold qL;rw[if_neg h1,if_neg (by simp)]
    rw[ef]
    simp only[tt,seval]
    refine⟨.ag (f6 (3,0)),[aB (Stmt.mk kz (Query.mk dz iz fz wz oz lz) tz rz cz sz hz).row [Fi,Ff,Fw,Fo,Fr,Fc,Fe,Fx]],⟨rfl,Fi,Ff,Fw,Fo,Fr,Fc,Fe,Fx,by first|rfl|simp only[Stmt.row_mk,ar,ar,aB,lc]⟩,am ?_⟩
    simp only[tt,seval,f6,Stmt.row_mk,ar,ar,aB]
    first|done|((try refine⟨by omega,?_⟩);exact aK fun x=>by (try simp only[List.flatten_append,List.count_append]);omega)
set_option maxHeartbeats 4000000 in
theorem tJ (s:ByteArray) (hs:s.size<=1048576):Cl Tryz.prog 35 [vs s] [] fun r _=>∃Fi Ff Fw Fo Fr Fc Fe Fx,r = .tu [(aB (be s).1.row [Fi,Ff,Fw,Fo,Fr,Fc,Fe,Fx],false),(f6 (be s).2,false)]:=by
 cases hlx:iE s with
 |inr p=>
  have e:be s=(bw,(1,(p:Int))):=by unfold be oy;rw[hlx]
  have cp:=tH s hs p hlx
  rw[e]
  refine ae ab true Tryz.func35 rfl (by kernel_rfl) ?_
  simp only[Tryz.f35,tt,seval]
  refine cS (cp) ?_ ?_<;>simp only[tt,seval,f6]
  refine dDrawn.intro [] (.take 0 (.br 1 (.br 2 (.br 3 .done .nobr) .nobr) (.br 2 (.take 1 (.br 3 .done .nobr)) .nobr))) (by kernel_rfl) ?_
  simp only[tt,seval]
  all_goals
   repeat' with_reducible refine aa ?_ ?_
   all_goals
    refine⟨.tu [(aB (bw).row [[],[],[],[],[],[],[],[]],false),(f6 (1,(p:Int)),false)],[],⟨[],[],[],[],[],[],[],[],by first|rfl|simp only[f6,Stmt.row_mk,ar,bw,zQuery,ERow.row_mk,srow,rW,aB,Val.row,lc]⟩,am ?_⟩
    simp only[tt,seval,f6,Stmt.row_mk,ar,bw,zQuery,dx,z0,ar,aB]
    first|done|exact Sb.refl _|((try refine⟨by omega,?_⟩);exact aK fun x=>by (try simp only[fb]);omega)
 |inl L=>
  have e:be s=(if 0<=(bA L).2 then bw else if dw (bA L).1=true then (bA L).1 else bw,qL L s.size (bA L).2 (dw (bA L).1)):=by unfold be oy;rw[hlx]
  have cp:=tI s hs L hlx
  rw[e]
  generalize (bA L).2=i at *
  generalize (bA L).1=x at *
  obtain⟨kz,⟨dz,iz,fz,wz,oz,lz⟩,tz,rz,cz,sz,hz⟩:=x
  simp only[Stmt.row_mk,ar,aB,lc] at cp
  by_cases hi:0<=i
  ·have ef:qL L s.size i (dw (Stmt.mk kz (Query.mk dz iz fz wz oz lz) tz rz cz sz hz))=(2,pc L s.size i):=if_pos hi
   rw[if_pos hi,ef]
   rw[ef] at cp
   refine ae ab true Tryz.func35 rfl (by kernel_rfl) ?_
   simp only[Tryz.f35,tt,seval]
   refine CallQ.intro (cp) ?_ ?_ ?_
   ·decide
   ·simp only[tt,seval]
   rintro r os ⟨rfl,Fi,Ff,Fw,Fo,Fr,Fc,Fe,Fx,rfl⟩ hos
   simp only[tt,seval,f6]
   refine dDrawn.intro [] (.take 0 (.br 1 (.br 2 (.br 3 .done .nobr) .nobr) (.br 2 (.take 1 (.br 3 .done .nobr)) .nobr))) (by kernel_rfl) ?_
   simp only[tt,seval]
   all_goals
    repeat' with_reducible refine aa ?_ ?_
    all_goals
     refine⟨.tu [(aB (bw).row [[],[],[],[],[],[],[],[]],false),(f6 (2,pc L s.size i),false)],[],⟨[],[],[],[],[],[],[],[],by first|rfl|simp only[f6,Stmt.row_mk,ar,bw,zQuery,ERow.row_mk,srow,rW,aB,Val.row,lc]⟩,am ?_⟩
     simp only[tt,seval,f6,Stmt.row_mk,ar,bw,zQuery,dx,z0,ar,aB]
     first|done|exact Sb.refl _|((try refine⟨by omega,?_⟩);exact aK fun x=>by (try simp only[List.flatten_append,List.count_append,List.count_nil]);omega)
  ·rw[if_neg hi]
   cases ho:dw (Stmt.mk kz (Query.mk dz iz fz wz oz lz) tz rz cz sz hz) with
   |true=>
    have ef:qL L s.size i true=(0,0):=by unfold qL;rw[if_neg hi,if_pos rfl]
    rw[if_pos rfl,ef]
    rw[ho] at cp
    rw[ef] at cp
    refine ae ab true Tryz.func35 rfl (by kernel_rfl) ?_
    simp only[Tryz.f35,tt,seval]
    refine CallQ.intro (cp) ?_ ?_ ?_
    ·decide
    ·simp only[tt,seval]
    rintro r os ⟨rfl,Fi,Ff,Fw,Fo,Fr,Fc,Fe,Fx,rfl⟩ hos
    simp only[tt,seval,f6,Stmt.row_mk,ar,aB]
    refine dDrawn.intro [] (.take 0 (.br 1 (.br 2 (.br 3 .done .nobr) .nobr) (.br 2 (.take 1 (.br 3 .done .nobr)) .nobr))) (by kernel_rfl) ?_
    simp only[tt,seval]
    all_goals
     repeat' with_reducible refine aa ?_ ?_
     all_goals
      refine⟨.tu [(aB ((Stmt.mk kz (Query.mk dz iz fz wz oz lz) tz rz cz sz hz)).row [Fi,Ff,Fw,Fo,Fr,Fc,Fe,Fx],false),(f6 (0,0),false)],[],⟨Fi,Ff,Fw,Fo,Fr,Fc,Fe,Fx,by first|rfl|simp only[f6,Stmt.row_mk,ar,ar,aB,lc]⟩,am ?_⟩
      simp only[tt,seval,f6,Stmt.row_mk,ar,dx,ar,aB]
      first|done|exact Sb.refl _|((try refine⟨by omega,?_⟩);exact aK fun x=>by (try simp only[fb]);omega)
   |false=>
    have ef:qL L s.size i false=(3,0):=by unfold qL;rw[if_neg hi,if_neg (by simp)]
    rw[if_neg (by simp),ef]
    rw[ho] at cp
    rw[ef] at cp
    refine ae ab true Tryz.func35 rfl (by kernel_rfl) ?_
    simp only[Tryz.f35,tt,seval]
    refine CallQ.intro (cp) ?_ ?_ ?_
    ·decide
    ·simp only[tt,seval]
    rintro r os ⟨rfl,Fi,Ff,Fw,Fo,Fr,Fc,Fe,Fx,rfl⟩ hos
    simp only[tt,seval,f6]
    refine dDrawn.intro [] (.take 0 (.br 1 (.br 2 (.br 3 .done .nobr) .nobr) (.br 2 (.take 1 (.br 3 .done .nobr)) .nobr))) (by kernel_rfl) ?_
    simp only[tt,seval]
    all_goals
     repeat' with_reducible refine aa ?_ ?_
     all_goals
      refine⟨.tu [(aB (bw).row [[],[],[],[],[],[],[],[]],false),(f6 (3,0),false)],[],⟨[],[],[],[],[],[],[],[],by first|rfl|simp only[f6,Stmt.row_mk,ar,bw,zQuery,ERow.row_mk,srow,rW,aB,Val.row,lc]⟩,am ?_⟩
      simp only[tt,seval,f6,Stmt.row_mk,ar,bw,zQuery,dx,z0,ar,aB]
      first|done|exact Sb.refl _|((try refine⟨by omega,?_⟩);exact aK fun x=>by (try simp only[List.flatten_append,List.count_append,List.count_nil]);omega)
end Go.Proofs.YteffjmaadkkmeaaGreatDoor
set_option maxRecDepth 8000
namespace Go.Proofs.YteffjmaadkkmeaaGreatDoor
open Go Go.Dv
open Go.Vc (D cY d3 cN bk)
def Pr {α:Type} (m:PM α) (P:α->Prop):Prop:=∀s x s',m s=some (x,s')->P x
theorem BO {a b:Expr} (ha:Rg a) (hb:Rg b):∀k,k∈[a,b]->Rg k:=fun k hk=>by
 rcases List.mem_cons.1 hk with rfl|hk
 ·exact ha
 ·rw[List.mem_singleton.1 hk];exact hb
theorem qG {a:Expr} (ha:Rg a):∀k,k∈[a]->Rg k:=fun k hk=>by rw[List.mem_singleton.1 hk];exact ha
theorem oB {P:Query->Prop}:∀q,q∈([]:List Query)->P q:=fun q hq=>by cases hq
theorem En : -9223372036854775808<=bD.num/\bD.num<=9223372036854775807:=by decide
theorem BP {op:Nat} {a b:Expr} (ha:Rg a) (hb:Rg b):Rg (f5 op a b):=.mk En (BO ha hb) oB oB
theorem Dw {op:Int} {a:Expr} (ha:Rg a):Rg (ua op a):=.mk En (qG ha) oB oB
theorem nJ {k:Int} {n:Bool} {ks:List Expr} {qs:List Query} (hk:∀x,x∈ks->Rg x) (hq:∀q,q∈qs->RgQ q):Rg (cB k n ks qs):=.mk En hk (fun q h=>(hq q h).1) fun q h=>(hq q h).2
theorem qH {v:Val} (h : -9223372036854775808<=v.num/\v.num<=9223372036854775807):Rg (dr v):=.mk h (fun _ h=>by cases h) oB oB
theorem BQ {a b:ByteArray}:Rg (md a b):=.mk En (fun _ h=>by cases h) oB oB
theorem tK:Rg zExpr:=.mk En (fun _ h=>by cases h) oB oB
theorem y6 {q:Query} (h:RgQ q):∀x,x∈[q]->RgQ x:=fun x hx=>by rw[List.mem_singleton.1 hx];exact h
theorem y7 (x:ByteArray) : -9223372036854775808<=ic x/\ic x<=9223372036854775807:=by
 unfold ic
 cases h:i8 x.data.toList with
 |none=>exact⟨by decide,by decide⟩
 |some m=>
  have:=(et.1 h).1
  show -9223372036854775808<=(m:Int)/\(m:Int)<=9223372036854775807
  omega
section
variable {L:List Tok} {f:Nat->PM Expr} {q:PM Query}
theorem Pr.chain {g:PM Expr} (hg:Pr g Rg) (lv:Nat):∀(n:Nat) (e:Expr) (s:PS) (x:Expr) (s':PS),Rg e->cH L g lv n e s=some (x,s')->Rg x
 |0,_,_,_,_,_,h=>by cases h
 |n+1,e,s,x,s',he,h=>by
  rw[cH] at h
  split at h
  ·injection h with h;injection h with hx h;subst hx h;exact he
  ·split at h
   ·cases h
   ·rename_i y s1 h1
    exact Pr.chain hg lv n _ _ _ _ (BP he (hg _ _ _ h1)) h
theorem Pr.sep {α:Type} {g:PM α} {P:α->Prop} (hg:Pr g P):∀(n:Nat) (l:List α) (s:PS) (x:List α) (s':PS),(∀y,y∈l->P y)->dy L g n l s=some (x,s')->∀y,y∈x->P y
 |0,_,_,_,_,_,h=>by cases h
 |n+1,l,s,x,s',hl,h=>by
  rw[dy] at h
  split at h
  ·split at h
   ·cases h
   ·rename_i y s1 h1
    exact Pr.sep hg n _ _ _ _ (fun z hz=>by
     rcases List.mem_append.1 hz with hz|hz
     ·exact hl z hz
     ·rw[List.mem_singleton.1 hz];exact hg _ _ _ h1) h
  ·injection h with h;injection h with hx h;subst hx h;exact hl
theorem sd {α:Type} {P:α->Prop} {a:α} (h:P a):∀y,y∈[a]->P y:=fun y hy=>by rw[List.mem_singleton.1 hy];exact h
theorem Pr.ors (hf:∀lv,Pr (f lv) Rg):Pr (ju L f) (fun l=>∀y,y∈l->Rg y):=fun s x s' h=>by
 unfold ju at h
 split at h
 ·cases h
 ·rename_i y s1 h1
  exact Pr.sep (hf 1) _ _ _ _ _ (sd (hf 1 _ _ _ h1)) h
theorem Pr.inn (hf:∀lv,Pr (f lv) Rg) (hq:Pr q RgQ) (e:Expr) (he:Rg e) (n:Bool) (s:PS) (x:Expr) (s':PS) (h:vE L f q e n s=some (x,s')):Rg x:=by
 unfold vE at h
 simp only at h
 split at h
 ·split at h
  ·cases h
  ·rename_i y s1 h1
   injection h with h;injection h with hx h;subst hx h
   exact nJ (qG he) (y6 (hq _ _ _ h1))
 ·split at h
  ·cases h
  ·rename_i y s1 h1
   injection h with h;injection h with hx h;subst hx h
   exact nJ (fun k hk=>by
    rcases List.mem_cons.1 hk with rfl|hk
    ·exact he
    ·exact Pr.ors hf _ _ _ h1 k hk) oB
theorem Pr.cmpT (hf:∀lv,Pr (f lv) Rg) (hq:Pr q RgQ) (e:Expr) (he:Rg e) (s:PS) (x:Expr) (s':PS) (h:Go.Proofs.YteffjmaadkkmeaaGreatDoor.cmpT L f q e s=some (x,s')):Rg x:=by
 unfold Go.Proofs.YteffjmaadkkmeaaGreatDoor.cmpT at h
 simp only at h
 split at h
 ·injection h with h;injection h with hx h;subst hx h
  exact nJ (qG he) oB
 ·split at h
  ·split at h
   ·cases h
   ·rename_i y s1 h1
    split at h
    ·cases h
    ·rename_i z s2 h2
     injection h with h;injection h with hx h;subst hx h
     exact nJ (fun k hk=>by
      rcases List.mem_cons.1 hk with rfl|hk
      ·exact he
      ·exact BO (hf 5 _ _ _ h1) (hf 5 _ _ _ h2) k hk) oB
  ·split at h
   ·exact Pr.inn hf hq e he _ _ _ _ h
   ·injection h with h;injection h with hx h;subst hx h;exact he
theorem Pr.cmp (hf:∀lv,Pr (f lv) Rg) (hq:Pr q RgQ):Pr (lB L f q) Rg:=fun s x s' h=>by
 unfold lB at h
 split at h
 ·cases h
 ·rename_i y s1 h1
  split at h
  ·exact Pr.cmpT hf hq _ (hf 5 _ _ _ h1) _ _ _ h
  ·split at h
   ·cases h
   ·rename_i z s2 h2
    injection h with h;injection h with hx h;subst hx h
    exact BP (hf 5 _ _ _ h1) (hf 5 _ _ _ h2)
theorem Pr.prim (hf:∀lv,Pr (f lv) Rg) (hq:Pr q RgQ):Pr (fD L f q) Rg:=fun s x s' h=>by
 unfold fD at h
 simp only at h
 split at h
 ·injection h with h;injection h with hx h;subst hx h;exact qH (y7 _)
 split at h
 ·injection h with h;injection h with hx h;subst hx h;exact qH (v:=⟨2,0,_⟩) ⟨(by decide:(-9223372036854775808:Int)<=0),(by decide:(0:Int)<=9223372036854775807)⟩
 split at h
 ·injection h with h;injection h with hx h;subst hx h;exact qH En
 split at h
 ·injection h with h;injection h with hx h;subst hx h;exact qH (v:=⟨3,1,_⟩) (by decide)
 split at h
 ·injection h with h;injection h with hx h;subst hx h;exact qH (v:=⟨3,0,_⟩) (by decide)
 split at h
 ·split at h
  ·injection h with h;injection h with hx h;subst hx h;exact BQ
  ·injection h with h;injection h with hx h;subst hx h;exact BQ
 split at h
 ·split at h
  ·cases h
  ·rename_i y s1 h1
   injection h with h;injection h with hx h;subst hx h
   exact hf 1 _ _ _ h1
 split at h
 ·split at h
  ·cases h
  ·rename_i y s1 h1
   injection h with h;injection h with hx h;subst hx h
   exact nJ (fun _ h=>by cases h) (y6 (hq _ _ _ h1))
 ·injection h with h;injection h with hx h;subst hx h;exact tK
theorem Pr.stepE (hf:∀lv,Pr (f lv) Rg) (hq:Pr q RgQ) (lv:Nat):Pr (Go.Proofs.YteffjmaadkkmeaaGreatDoor.stepE L f q lv) Rg:=fun s x s' h=>by
 unfold Go.Proofs.YteffjmaadkkmeaaGreatDoor.stepE at h
 split at h
 ·split at h
  ·split at h
   ·cases h
   ·rename_i y s1 h1
    injection h with h;injection h with hx h;subst hx h
    exact Dw (hf 3 _ _ _ h1)
  ·exact hf 4 _ _ _ h
 split at h
 ·exact Pr.cmp hf hq _ _ _ h
 split at h
 ·split at h
  ·split at h
   ·cases h
   ·rename_i y s1 h1
    injection h with h;injection h with hx h;subst hx h
    exact Dw (hf 8 _ _ _ h1)
  ·exact hf 9 _ _ _ h
 split at h
 ·exact Pr.prim hf hq _ _ _ h
 ·split at h
  ·cases h
  ·rename_i y s1 h1
   exact Pr.chain (hf _) lv _ _ _ _ _ (hf _ _ _ _ h1) h
def RgI:Item->Prop | .mk _ _ e _=>Rg e
def BR (x:Source):Prop:=∀e,e∈x.on->Rg e
def RgK:SortKey->Prop | .mk e _=>Rg e
theorem Pr.item (hf:∀lv,Pr (f lv) Rg):Pr (f8 L f) RgI:=fun s x s' h=>by
 unfold f8 at h
 split at h
 ·injection h with h;injection h with hx h;subst hx h;exact tK
 split at h
 ·injection h with h;injection h with hx h;subst hx h;exact tK
 split at h
 ·cases h
 ·rename_i y s1 h1
  injection h with h;injection h with hx h;subst hx h
  exact hf 1 _ _ _ h1
theorem Pr.sources (hf:∀lv,Pr (f lv) Rg):∀(n:Nat) (l:List Source) (s:PS) (x:List Source) (s':PS),(∀y,y∈l->BR y)->bN L f n l s=some (x,s')->∀y,y∈x->BR y
 |0,_,_,_,_,_,h=>by cases h
 |n+1,l,s,x,s',hl,h=>by
  rw[bN] at h
  have add:∀z:Source,BR z->∀y,y∈l++[z]->BR y:=fun z hz y hy=>by
   rcases List.mem_append.1 hy with hy|hy
   ·exact hl y hy
   ·rw[List.mem_singleton.1 hy];exact hz
  split at h
  ·exact Pr.sources hf n _ _ _ _ (add _ fun e he=>by cases he) h
  simp only at h
  split at h
  ·split at h
   ·cases h
   ·rename_i y s1 h1
    exact Pr.sources hf n _ _ _ _ (add ((sourceM L (adv s)).1.withOn [y]) (qG (hf 1 _ _ _ h1))) h
  ·injection h with h;injection h with hx h;subst hx h;exact hl
theorem Pr.wher (hf:∀lv,Pr (f lv) Rg):Pr (dE L f) (fun l=>∀y,y∈l->Rg y):=fun s x s' h=>by
 unfold dE at h
 split at h
 ·split at h
  ·cases h
  ·rename_i y s1 h1
   injection h with h;injection h with hx h;subst hx h
   exact qG (hf 1 _ _ _ h1)
 ·injection h with h;injection h with hx h;subst hx h;exact fun _ h=>by cases h
theorem Pr.sort (hf:∀lv,Pr (f lv) Rg):Pr (fa L f) RgK:=fun s x s' h=>by
 unfold fa at h
 split at h
 ·cases h
 ·rename_i y s1 h1
  split at h
  ·injection h with h;injection h with hx h;subst hx h;exact hf 1 _ _ _ h1
  ·injection h with h;injection h with hx h;subst hx h;exact hf 1 _ _ _ h1
theorem Pr.order (hf:∀lv,Pr (f lv) Rg):Pr (fc L f) (fun l=>∀y,y∈l->RgK y):=fun s x s' h=>by
 unfold fc at h
 simp only at h
 split at h
 ·split at h
  ·cases h
  ·rename_i y s1 h1
   exact Pr.sep (Pr.sort hf) _ _ _ _ _ (sd (Pr.sort hf _ _ _ h1)) h
 ·injection h with h;injection h with hx h;subst hx h;exact fun _ h=>by cases h
theorem Pr.items (hf:∀lv,Pr (f lv) Rg):Pr (fe L f) (fun l=>∀y,y∈l->RgI y):=fun s x s' h=>by
 unfold fe at h
 split at h
 ·cases h
 ·rename_i y s1 h1
  exact Pr.sep (Pr.item hf) _ _ _ _ _ (sd (Pr.item hf _ _ _ h1)) h
theorem BS {d:Bool} {it:List Item} {fr:List Source} {wh:List Expr} {od:List SortKey} {li:Int} (h1:∀y,y∈it->RgI y) (h2:∀y,y∈fr->BR y) (h3:∀y,y∈wh->Rg y) (h4:∀y,y∈od->RgK y) (h5:li<=9223372036854775807):RgQ (.mk d it fr wh od li):=by
 refine⟨h5,fun x hx=>?_⟩
 simp only[exprsQ,List.mem_append,List.mem_flatMap,List.mem_map] at hx
 rcases hx with ((hx|⟨y,hy,hx⟩)|hx)|⟨y,hy,rfl⟩
 ·unfold aN at hx
  rw[List.mem_map] at hx
  obtain⟨y,hy,rfl⟩:=hx
  have:=h1 y (List.mem_filter.1 hy).1
  obtain⟨a,b,c,d⟩:=y
  exact this
 ·exact h2 y hy x hx
 ·exact h3 x hx
 ·have:=h4 y hy
  obtain⟨a,b⟩:=y
  exact this
theorem BT (s:PS):(limitM L s).1<=9223372036854775807:=by
 unfold limitM
 split
 ·exact (y7 _).2
 ·exact (by decide:(-1:Int)<=9223372036854775807)
theorem Pr.stepQ (hf:∀lv,Pr (f lv) Rg):Pr (Go.Proofs.YteffjmaadkkmeaaGreatDoor.stepQ L f) RgQ:=fun s x s' h=>by
 unfold Go.Proofs.YteffjmaadkkmeaaGreatDoor.stepQ at h
 simp only at h
 split at h
 ·cases h
 rename_i its s2 h1
 split at h
 ·cases h
 rename_i frs s4 h2
 split at h
 ·cases h
 rename_i wh s5 h3
 split at h
 ·cases h
 rename_i od s6 h4
 injection h with h;injection h with hx h;subst hx h
 exact BS (Pr.items hf _ _ _ h1) (Pr.sources hf _ _ _ _ _ (sd fun e he=>by cases he) h2) (Pr.wher hf _ _ _ h3) (Pr.order hf _ _ _ h4) (BT _)
theorem vC:∀k,(∀lv,Pr ((pP L k).1 lv) Rg)/\Pr (pP L k).2 RgQ
 |0=>⟨fun _ _ _ _ h=>(by cases h),fun _ _ _ h=>(by cases h)⟩
 |k+1=>⟨fun lv=>Pr.stepE (vC k).1 (vC k).2 lv,Pr.stepQ (vC k).1⟩
theorem mC {k:Int} {q:Query} {t:ByteArray} {r:List ERow} {c:List ByteArray} {e w:List Expr} (h1:RgQ q) (h2:∀x,x∈r->∀y,y∈x.l->Rg y) (h3:∀y,y∈e->Rg y) (h4:∀y,y∈w->Rg y):RgS (.mk k q t r c e w):=by
 refine⟨h1.1,fun x hx=>?_⟩
 simp only[aT,List.mem_append,List.mem_flatMap] at hx
 rcases hx with ((hx|⟨y,hy,hx⟩)|hx)|hx
 ·exact h1.2 x hx
 ·exact h2 y hy x hx
 ·exact h3 x hx
 ·exact h4 x hx
theorem jg:RgQ zQuery:=BS (fun _ h=>by cases h) (fun _ h=>by cases h) (fun _ h=>by cases h) (fun _ h=>by cases h) (by decide)
theorem Pr.row (hf:∀lv,Pr (f lv) Rg):Pr (lC L f) (fun x=>∀y,y∈x.l->Rg y):=fun s x s' h=>by
 unfold lC at h
 split at h
 ·cases h
 ·rename_i y s1 h1
  injection h with h;injection h with hx h;subst hx h
  exact Pr.ors hf _ _ _ h1
theorem Pr.set1 (hf:∀lv,Pr (f lv) Rg):Pr (km L f) (fun x=>Rg x.2):=fun s x s' h=>by
 unfold km at h
 simp only at h
 split at h
 ·cases h
 ·rename_i y s1 h1
  injection h with h;injection h with hx h;subst hx h
  exact hf 1 _ _ _ h1
theorem Pr.stmt (hf:∀lv,Pr (f lv) Rg) (hq:Pr q RgQ):Pr (gR L f q) RgS:=fun s x s' h=>by
 have e0:∀y,y∈([]:List Expr)->Rg y:=fun _ h=>by cases h
 have r0:∀x,x∈([]:List ERow)->∀y,y∈x.l->Rg y:=fun _ h=>by cases h
 unfold gR at h
 split at h
 ·split at h
  ·cases h
  rename_i y s1 h1
  injection h with h;injection h with hx h;subst hx h
  exact mC (hq _ _ _ h1) r0 e0 e0
 split at h
 ·unfold gE at h
  simp only at h
  split at h
  ·cases h
  rename_i y s1 h1
  injection h with h;injection h with hx h;subst hx h
  unfold lP at h1
  split at h1
  ·cases h1
  rename_i z s2 h2
  exact mC jg (Pr.sep (Pr.row hf) _ _ _ _ _ (sd (Pr.row hf _ _ _ h2)) h1) e0 e0
 split at h
 ·unfold gF at h
  simp only at h
  split at h
  ·cases h
  rename_i y s1 h1
  split at h
  ·cases h
  rename_i z s2 h2
  injection h with h;injection h with hx h;subst hx h
  unfold mR at h1
  split at h1
  ·cases h1
  rename_i u s3 h3
  have hl:=Pr.sep (Pr.set1 hf) _ _ _ _ _ (sd (Pr.set1 hf _ _ _ h3)) h1
  exact mC jg r0 (fun e he=>by
   obtain⟨p,hp,rfl⟩:=List.mem_map.1 he
   exact hl p hp) (Pr.wher hf _ _ _ h2)
 split at h
 ·unfold ik at h
  simp only at h
  split at h
  ·cases h
  rename_i y s1 h1
  injection h with h;injection h with hx h;subst hx h
  exact mC jg r0 e0 (Pr.wher hf _ _ _ h1)
 ·injection h with h;injection h with hx h;subst hx h
  exact mC jg r0 e0 e0
theorem BU {α:Type} {P:α->Prop} (z:α) (hz:P z) (o:Option (α×PS)) (h:∀x s,o=some (x,s)->P x):P (il L z o).1:=by
 unfold il
 cases o with
 |none=>exact hz
 |some p=>
  obtain⟨x,s⟩:=p
  simp only
  split
  ·exact hz
  ·exact h x s rfl
theorem BV:RgS (bA L).1:=BU _ (mC jg (fun _ h=>by cases h) (fun _ h=>by cases h) (fun _ h=>by cases h)) _ fun x s h=>Pr.stmt (vC (pD L)).1 (vC (pD L)).2 _ _ _ h
end
end Go.Proofs.YteffjmaadkkmeaaGreatDoor
set_option maxRecDepth 8000
namespace Go.Proofs.YteffjmaadkkmeaaGreatDoor
open Go Go.Dv Go.Cv
open Go.Vc (D cY d3 cN bk)
noncomputable def gt (s:ByteArray):ByteArray×(Int×Int):=(if (be s).2.1=0 then dD (dL (be s).1) else ⟨#[]⟩,(be s).2)
theorem vD {P:Stmt->Prop} (hz:P bw) (h:∀L:List Tok,L.length<=2000->(∀t∈L,aW t=true)->P (bA L).1) (s:ByteArray):P (be s).1:=by
 unfold be oy
 split
 ·exact hz
 ·rename_i L hlx
  have:=h L (nE hlx).1 (nE hlx).2
  simp only
  split
  ·exact hz
  ·split
   ·exact this
   ·exact hz
theorem sf (s:ByteArray):RgS (be s).1:=vD (mC jg (fun _ h=>by cases h) (fun _ h=>by cases h) (fun _ h=>by cases h)) (fun L _ _=>BV) s
theorem si (s:ByteArray):bR (be s).1<=200000:=vD (P:=fun x=>bR x<=200000) (by
 show bR bw<=200000
 rw[bw,fV,sc,zp]
 simp only[dZ,z0,bO];omega) (fun L h1 h2=>qF (fun t ht=>BA (h2 t ht)) h1) s
set_option maxHeartbeats 2000000 in
theorem zq (s:ByteArray) (hs:s.size<=1048576):Cl Tryz.prog 36 [vs s] [] fun r _=>r = .tu [([.v (.string (gt s).1)],true),(f6 (gt s).2,false)]:=by
 have c1:=vA s hs
 have ct:=wE (be s).1 (sf s) (Nat.le_trans (si s) (by omega))
 unfold gt
 generalize (be s).1=x at *
 generalize (be s).2=f at *
 generalize dD (dL x)=tx at *
 obtain⟨f1,f2⟩:=f
 obtain⟨kz,⟨dz,iz,fz,wz,oz,lz⟩,tz,rz,cz,sz,hz⟩:=x
 simp only[Stmt.row_mk,ar,lc] at c1 ct
 by_cases hf:f1=0
 ·subst hf
  rw[if_pos rfl]
  refine ae ab false Tryz.func36 rfl (by kernel_rfl) ?_
  simp only[Tryz.f36,tt,seval]
  refine cZ (c1) ?_ ?_<;>simp only[tt,seval,f6]
  refine dDrawn.intro [] (iK [0,4,3,6,9]) (by kernel_rfl) ?_
  simp only[tt,seval]
  all_goals repeat' first|refine cJ ?_ ?_|refine b7 ?_ ?_
  all_goals
   refine cZ (ct) ?_ ?_<;>simp only[tt,seval]
  all_goals
   repeat' with_reducible refine aa ?_ ?_
   all_goals
    refine⟨.tu [([.v (.string (tx))],true),(f6 (0,f2),false)],[],rfl,am ?_⟩
    simp only[tt,seval,f6]
 ·have h0:(f1=0)=False:=eq_false hf
  rw[if_neg hf]
  refine ae ab false Tryz.func36 rfl (by kernel_rfl) ?_
  simp only[Tryz.f36,tt,seval]
  refine cZ (c1) ?_ ?_<;>simp only[tt,seval,f6,h0]
  refine dDrawn.intro [] (iK [0,2,5]) (by kernel_rfl) ?_
  simp only[tt,seval]
  all_goals
   repeat' with_reducible refine aa ?_ ?_
   all_goals
    refine⟨.tu [([.v (.string (⟨#[]⟩))],true),(f6 (f1,f2),false)],[],rfl,am ?_⟩
    simp only[tt,seval,f6]
set_option maxHeartbeats 2000000 in
theorem wO (s:ByteArray) (hs:s.size<=1048576):Cl Tryz.prog 37 [vs s] [] fun r _=>r = .tu [([.v (.string (gt s).1)],true),(f6 (gt s).2,false)]:=by
 have c1:=tJ s hs
 have ct:=vx (be s).1 (sf s) (Nat.le_trans (si s) (by omega))
 unfold gt
 generalize (be s).1=x at *
 generalize (be s).2=f at *
 generalize dD (dL x)=tx at *
 obtain⟨f1,f2⟩:=f
 obtain⟨kz,⟨dz,iz,fz,wz,oz,lz⟩,tz,rz,cz,sz,hz⟩:=x
 simp only[Stmt.row_mk,ar,aB,lc] at c1 ct
 by_cases hf:f1=0
 ·subst hf
  rw[if_pos rfl]
  refine ae ab false Tryz.func37 rfl (by kernel_rfl) ?_
  simp only[Tryz.f37,tt,seval]
  refine hJ (c1) ?_ ?_ ?_
  ·decide
  ·simp only[tt,seval]
  rintro r ⟨Fi,Ff,Fw,Fo,Fr,Fc,Fe,Fx,rfl⟩
  simp only[tt,seval,f6]
  refine dDrawn.intro [] (iK [0,4,3,6,9]) (by kernel_rfl) ?_
  simp only[tt,seval]
  all_goals repeat' first|refine cJ ?_ ?_|refine b7 ?_ ?_
  all_goals
   refine cZ (ct) ?_ ?_<;>simp only[tt,seval]
  all_goals
   repeat' with_reducible refine aa ?_ ?_
   all_goals
    refine⟨.tu [([.v (.string (tx))],true),(f6 (0,f2),false)],[],rfl,am ?_⟩
    simp only[tt,seval,f6]
 ·have h0:(f1=0)=False:=eq_false hf
  rw[if_neg hf]
  refine ae ab false Tryz.func37 rfl (by kernel_rfl) ?_
  simp only[Tryz.f37,tt,seval]
  refine hJ (c1) ?_ ?_ ?_
  ·decide
  ·simp only[tt,seval]
  rintro r ⟨Fi,Ff,Fw,Fo,Fr,Fc,Fe,Fx,rfl⟩
  simp only[tt,seval,f6,h0]
  refine dDrawn.intro [] (iK [0,2,5]) (by kernel_rfl) ?_
  simp only[tt,seval]
  all_goals
   repeat' with_reducible refine aa ?_ ?_
   all_goals
    refine⟨.tu [([.v (.string (⟨#[]⟩))],true),(f6 (f1,f2),false)],[],rfl,am ?_⟩
    simp only[tt,seval,f6]
end Go.Proofs.YteffjmaadkkmeaaGreatDoor
