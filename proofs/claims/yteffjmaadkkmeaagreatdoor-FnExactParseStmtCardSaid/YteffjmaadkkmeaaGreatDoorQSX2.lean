/-
  Statements: marks, sizes, sources.
  Conditions: none.
-/
import Derived.Test.YteffjmaadkkmeaaGreatDoorQSH2
import Derived.Test.YteffjmaadkkmeaaGreatDoorQSX1
set_option linter.unusedVariables false
set_option linter.unusedSimpArgs false
set_option linter.unusedSectionVars false
set_option maxRecDepth 8000
namespace Go.Proofs.YteffjmaadkkmeaaGreatDoor
open Go Go.Dv
open Go.Vc (D eb ec dK bN)
section
variable {L:List Tok} {f:Nat→PM Expr} {q:PM Query}
theorem Dn (l:List Expr):hZ (.mk l)=aq (gu av) l:=by rw[s8,mi]
theorem Wz.row (hf:∀lv,Wt (f lv) av 8):Wt (mt L f) hZ 9:=fun s x s' h=>by
 unfold mt at h
 split at h
 ·cases h
 ·rename_i y s1 h1
  injection h with h;injection h with hx h;subst hx h
  have a1:=Wz.ors hf _ _ _ h1
  have m1:=bQ (be L s 40) s
  have m2:=bQ (be L s1 41) s1
  rw[Dn]
  omega
theorem Wz.rows (hf:∀lv,Wt (f lv) av 8):Wt (lm L f) (aq (gu hZ)) 10:=fun s x s' h=>by
 unfold lm at h
 split at h
 ·cases h
 ·rename_i y s1 h1
  have a1:=Wz.row hf _ _ _ h1
  have a2:=Wz.sep (by omega) (Wt.up (Wz.row hf)) _ _ _ _ _ h
  simp only[aq,gu] at *
  omega
def yQ (x:ByteArray×Expr):Nat:=x.1.size+av x.2+2
theorem Wz.set1 (h40:∀t∈L,t.text.size≤40) (hf:∀lv,Wt (f lv) av 8):Wt (lp L f) yQ 10:=fun s x s' h=>by
 unfold lp at h
 simp only at h
 split at h
 ·cases h
 ·rename_i y s1 h1
  injection h with h;injection h with hx h;subst hx h
  have m1:=(kN h40 2 s).2
  have m2:=bQ (be L (mText L 2 s).2 61) (mText L 2 s).2
  have a1:=hf 1 _ _ _ h1
  show (mText L 2 s).1.size+av y+2+64*s.a≤10+64*s1.a
  omega
theorem Wz.sets (h40:∀t∈L,t.text.size≤40) (hf:∀lv,Wt (f lv) av 8):Wt (mD L f) (aq yQ) 10:=fun s x s' h=>by
 unfold mD at h
 split at h
 ·cases h
 ·rename_i y s1 h1
  have a1:=Wz.set1 h40 hf _ _ _ h1
  have a2:=Wz.sep (by omega) (Wz.set1 h40 hf) _ _ _ _ _ h
  simp only[aq] at *
  omega
theorem td:∀l:List (ByteArray×Expr),jh (l.map (·.1))+aq (gu av) (l.map (·.2))=aq yQ l
 | []=>rfl
 |x::r=>by
  have:=td r
  unfold jh at *
  simp only[List.map_cons,List.length_cons,List.sum_cons,aq,yQ,gu] at *
  omega
theorem wv:aW ar=0:=by rw[ar,cm];rfl
theorem iI (k:Int) (q:Query) (t:ByteArray) (r:List ERow) (c:List ByteArray) (e w:List Expr):eL (.mk k q t r c e w)=aW q+t.size+aq (gu hZ) r+(jh c+aq (gu av) e)+aq (gu av) w:=by
 rw[gA,mi,mi,gz,nj];omega
theorem C8:jh []=0:=rfl
theorem Wz.stmt (h40:∀t∈L,t.text.size≤40) (hf:∀lv,Wt (f lv) av 8) (hq:Wt q aW 15):Wt (ik L f q) eL 40:=fun s x s' h=>by
 unfold ik at h
 split at h
 ·split at h
  ·cases h
  rename_i y s1 h1
  injection h with h;injection h with hx h;subst hx h
  have a1:=hq _ _ _ h1
  rw[iI,C8]
  simp only[aq,z0,bE];omega
 split at h
 ·unfold iq at h
  simp only at h
  have m1:=bQ (al L (adv s) 24) (adv s)
  generalize must (al L (adv s) 24) (adv s)=u1 at *
  have m2:=(kN h40 2 u1).2
  generalize (mText L 2 u1).2=u2 at *
  generalize (mText L 2 u1).1=tb at *
  have m3:=bQ (al L u2 25) u2
  split at h
  ·cases h
  rename_i y s1 h1
  injection h with h;injection h with hx h;subst hx h
  have a1:=Wz.rows hf _ _ _ h1
  rw[iI,wv,C8]
  rw[b8] at m1
  simp only[aq];omega
 split at h
 ·unfold ir at h
  simp only at h
  have m1:=(kN h40 2 (adv s)).2
  generalize (mText L 2 (adv s)).2=u1 at *
  generalize (mText L 2 (adv s)).1=tb at *
  have m2:=bQ (al L u1 27) u1
  split at h
  ·cases h
  rename_i y s1 h1
  split at h
  ·cases h
  rename_i z s2 h2
  injection h with h;injection h with hx h;subst hx h
  have a1:=Wz.sets h40 hf _ _ _ h1
  have a2:=Wz.wher hf _ _ _ h2
  rw[iI,wv,td]
  rw[b8] at m1
  simp only[aq];omega
 split at h
 ·unfold ji at h
  simp only at h
  have m1:=bQ (al L (adv s) 3) (adv s)
  generalize must (al L (adv s) 3) (adv s)=u1 at *
  have m2:=(kN h40 2 u1).2
  generalize (mText L 2 u1).2=u2 at *
  generalize (mText L 2 u1).1=tb at *
  split at h
  ·cases h
  rename_i y s1 h1
  injection h with h;injection h with hx h;subst hx h
  have a1:=Wz.wher hf _ _ _ h1
  rw[iI,wv,C8]
  rw[b8] at m1
  simp only[aq];omega
 ·injection h with h;injection h with hx h;subst hx h
  rw[aF,iI,wv,C8]
  simp only[aq,z0,bE,fl];omega
theorem ww (h40:∀t∈L,t.text.size≤40) (hL:L.length≤2000):eL (cv L).1≤200000:=by
 have hz:eL aF≤200000:=by
  rw[aF,iI,wv,C8]
  simp only[aq,z0,bE];omega
 unfold cv
 cases h:ik L (iP L) (i7 L) s0 with
 |none=>exact hz
 |some p=>
  obtain⟨x,s⟩:=p
  have h1:=Wz.stmt h40 (ra h40 (pD L)).1 (ra h40 (pD L)).2 _ _ _ h
  have h2:=(OkM.stmt (fun lv=>ey (L:=L) lv) ez _ _ _ h).2.1 (Nat.zero_le _)
  unfold dC
  simp only
  split
  ·exact hz
  ·show eL x≤_
   omega
end
noncomputable def cK:ByteArray→Stmt×(Int×Int):=fj aF cv fI
set_option maxHeartbeats 2000000 in
theorem wA (s:ByteArray) (hs:s.size≤1048576):Cl Tryz.prog 34 [vs s] [] fun r _=>r = .tu [(an (cK s).1.row,false),(cx (cK s).2,false)]:=by
 have cl:=Bz s hs
 refine ab aa false Tryz.func34 rfl (by kernel_rfl) ?_
 simp only[Tryz.f34,tt,seval]
 cases hlx:gi s with
 |inr p=>
  have e:cK s=(aF,(1,(p:Int))):=by unfold cK fj;rw[hlx]
  rw[hlx] at cl
  rw[e]
  have h0:(0≤(p:Int))=True:=eq_true (by omega)
  refine cZ (cl) (by decide) ?_ ?_<;>simp only[tt,seval,l7]
  simp only[tt,seval,h0,true_implies,not_true_eq_false,false_implies,and_true]
  refine⟨.tu [(an (aF).row,false),(cx (1,(p:Int)),false)],[],rfl,aj ?_⟩
  simp only[tt,seval,cx,Stmt.row_mk,Query.row_mk,ar,ERow.row_mk,rW,Val.row,lc,aK,aF,List.flatMap_nil,List.length_nil]
 |inl L=>
  obtain⟨hL2,hok⟩:=hY hlx
  have hL:L.length≤1048576:=by omega
  have h40:∀t∈L,t.text.size≤40:=fun t ht=>sX (hok t ht)
  have hT:∀t∈L,t.text.size≤1048576:=fun t ht=>Nat.le_trans (h40 t ht) (by omega)
  have e:cK s=(if 0≤(cv L).2 then aF else if fI (cv L).1=true then (cv L).1 else aF,fK L s.size (cv L).2 (fI (cv L).1)):=by unfold cK fj;rw[hlx]
  have hsz:=ww h40 hL2
  have ct:=xA L hL hT
  rw[hlx] at cl
  rw[e]
  generalize (cv L).2=i at *
  generalize (cv L).1=x at *
  have ck:=BS x (by omega)
  obtain⟨kz,⟨dz,iz,fz,wz,oz,lz⟩,tz,rz,cz,sz,hz⟩:=x
  simp only[Stmt.row_mk,Query.row_mk,ar,ERow.row_mk,rW,Val.row,lc] at ct ck
  refine cZ (cl) (by decide) ?_ ?_<;>simp only[tt,seval,l7]
  try simp only[tt,seval,not_false_eq_true,true_implies,false_implies,true_and]
  refine cZ (ct) (by decide) ?_ ?_<;>simp only[tt,seval]
  by_cases hi:0≤i
  ·have h0:(0≤i)=True:=eq_true hi
   simp only[tt,seval,h0,true_implies,not_true_eq_false,false_implies,and_true]
   have cf:=nl L hL hT i hi s
   have ef:fK L s.size i (fI (Stmt.mk kz (Query.mk dz iz fz wz oz lz) tz rz cz sz hz))=(2,iy L s.size i):=if_pos hi
   rw[ef]
   refine cZ (cf) (by decide) ?_ ?_<;>simp only[tt,seval,cx]
   refine⟨.tu [(an (aF).row,false),(cx (2,iy L s.size i),false)],[],rfl,aj ?_⟩
   simp only[tt,seval,cx,Stmt.row_mk,Query.row_mk,ar,ERow.row_mk,rW,Val.row,lc,aK,aF,List.flatMap_nil,List.length_nil]
  ·have h0:(0≤i)=False:=eq_false hi
   simp only[tt,seval,h0,not_false_eq_true,true_implies,false_implies,true_and]
   refine cZ (ck) (by decide) ?_ ?_<;>simp only[tt,seval]
   cases ho:fI (Stmt.mk kz (Query.mk dz iz fz wz oz lz) tz rz cz sz hz) with
   |true=>
    have ef:fK L s.size i true=(0,0):=by unfold fK;rw[if_neg hi,if_pos rfl]
    rw[ef]
    simp only[tt,seval,ho,Bool.not_true,Bool.false_eq_true]
    refine⟨.tu [(an (Stmt.mk kz (Query.mk dz iz fz wz oz lz) tz rz cz sz hz).row,false),(cx (0,0),false)],[],rfl,aj ?_⟩
    simp only[tt,seval,cx,Stmt.row_mk,Query.row_mk,ar,ERow.row_mk,rW,Val.row,lc,aK,aF,List.flatMap_nil,List.length_nil]
   |false=>
    have ef:fK L s.size i false=(3,0):=by unfold fK;rw[if_neg hi,if_neg (by simp)]
    rw[ef]
    simp only[tt,seval,ho,Bool.not_false]
    refine⟨.tu [(an (aF).row,false),(cx (3,0),false)],[],rfl,aj ?_⟩
    simp only[tt,seval,cx,Stmt.row_mk,Query.row_mk,ar,ERow.row_mk,rW,Val.row,lc,aK,aF,List.flatMap_nil,List.length_nil]
end Go.Proofs.YteffjmaadkkmeaaGreatDoor
set_option maxRecDepth 8000
namespace Go.Proofs.YteffjmaadkkmeaaGreatDoor
open Go Go.Dv Go.Cv
open Go.Vc (D eb ec dK bN)
set_option maxHeartbeats 2000000 in
theorem wC (L:List Tok) (hL:L.length≤1048576) (hT:∀t∈L,t.text.size≤1048576) (h40:∀t∈L,t.text.size≤40) (hL2:L.length≤2000):Cl Tryz.prog 82 [.c (.sl L.length (L.flatMap Tok.row) none),.c (.p 9000 0)] [[.v (.int .i64 0),.v (.bool false),.v (.slice none 0 0),.v (.slice none 0 0),.v (.slice none 0 0),.v (.slice none 0 0),.v (.int .i64 0),.v (.string ByteArray.empty),.v (.slice none 0 0),.v (.slice none 0 0),.v (.slice none 0 0),.v (.slice none 0 0)]] fun r os=>r = .tu [([.v (.int .i64 (cv L).2)],true),([.v (.bool (fI (cv L).1))],true)]∧∃Fi Ff Fw Fo Fr Fc Fe Fx,os=[ah (cv L).1.row [Fi,Ff,Fw,Fo,Fr,Fc,Fe,Fx]]:=by
 have hsz:=ww h40 hL2
 have ct:=wu L hL hT
 generalize (cv L).2=i at *
 generalize (cv L).1=x at *
 have ck:=zW x (by omega)
 obtain⟨kz,⟨dz,iz,fz,wz,oz,lz⟩,tz,rz,cz,sz,hz⟩:=x
 simp only[Stmt.row_mk,Query.row_mk,ar,ERow.row_mk,rW,Val.row,lc,ah,Val.row,lc] at ct ck ⊢
 refine ab aa true Tryz.func82 rfl (by kernel_rfl) ?_
 simp only[Tryz.f82,tt,seval]
 refine fc (ct) ?_ ?_ ?_
 ·decide
 ·simp only[tt,seval,ah,Val.row,lc]
 rintro r ⟨Fi,Ff,Fw,Fo,Fr,Fc,Fe,Fx,rfl⟩
 simp only[tt,seval,ah,Val.row,lc]
 refine cZ (ck) (by decide) ?_ ?_<;>simp only[tt,seval,ah,Val.row,lc]
 refine⟨.tu [([.v (.int .i64 i)],true),([.v (.bool (fI (Stmt.mk kz (Query.mk dz iz fz wz oz lz) tz rz cz sz hz)))],true)],[ah (Stmt.mk kz (Query.mk dz iz fz wz oz lz) tz rz cz sz hz).row [Fi,Ff,Fw,Fo,Fr,Fc,Fe,Fx]],⟨rfl,Fi,Ff,Fw,Fo,Fr,Fc,Fe,Fx,by first|rfl|simp only[Stmt.row_mk,Query.row_mk,aF,ar,ERow.row_mk,srow,rW,ah,Val.row,lc]⟩,aj ?_⟩
 simp only[tt,seval,Stmt.row_mk,Query.row_mk,aF,ar,ERow.row_mk,srow,rW,ah,Val.row,lc]
 first|done|((try refine⟨by omega,?_⟩);exact aA fun x=>by (try simp only[fb]);omega)
theorem ut (s:ByteArray) (hs:s.size≤1048576) (p:Nat) (hlx:gi s = .inr p):Cl Tryz.prog 75 [vs s,.c (.fn 82 [] [9000])] [[.v (.int .i64 0),.v (.bool false),.v (.slice none 0 0),.v (.slice none 0 0),.v (.slice none 0 0),.v (.slice none 0 0),.v (.int .i64 0),.v (.string ByteArray.empty),.v (.slice none 0 0),.v (.slice none 0 0),.v (.slice none 0 0),.v (.slice none 0 0)]] fun r os=>r = .ag (cx (1,(p:Int)))∧os=[[.v (.int .i64 0),.v (.bool false),.v (.slice none 0 0),.v (.slice none 0 0),.v (.slice none 0 0),.v (.slice none 0 0),.v (.int .i64 0),.v (.string ByteArray.empty),.v (.slice none 0 0),.v (.slice none 0 0),.v (.slice none 0 0),.v (.slice none 0 0)]]:=by
 have cl:=oY s hs
 rw[hlx] at cl
 have h0:(0≤(p:Int))=True:=eq_true (by omega)
 refine ab aa true Tryz.func75 rfl (by kernel_rfl) ?_
 simp only[Tryz.f75,tt,seval]
 refine cZ (cl) (by decide) ?_ ?_<;>simp only[tt,seval,l7]
 try simp only[tt,seval,h0,true_implies,not_true_eq_false,false_implies,and_true]
 refine⟨.ag (cx (1,(p:Int))),[[.v (.int .i64 0),.v (.bool false),.v (.slice none 0 0),.v (.slice none 0 0),.v (.slice none 0 0),.v (.slice none 0 0),.v (.int .i64 0),.v (.string ByteArray.empty),.v (.slice none 0 0),.v (.slice none 0 0),.v (.slice none 0 0),.v (.slice none 0 0)]],⟨rfl,rfl⟩,aj ?_⟩
 simp only[tt,seval,cx]
 first|done|exact Sb.refl _|((try refine⟨by omega,?_⟩);exact aA fun x=>by (try simp only[fb]);omega)
set_option maxHeartbeats 4000000 in
theorem uu (s:ByteArray) (hs:s.size≤1048576) (L:List Tok) (hlx:gi s = .inl L):Cl Tryz.prog 75 [vs s,.c (.fn 82 [] [9000])] [[.v (.int .i64 0),.v (.bool false),.v (.slice none 0 0),.v (.slice none 0 0),.v (.slice none 0 0),.v (.slice none 0 0),.v (.int .i64 0),.v (.string ByteArray.empty),.v (.slice none 0 0),.v (.slice none 0 0),.v (.slice none 0 0),.v (.slice none 0 0)]] fun r os=>r = .ag (cx (fK L s.size (cv L).2 (fI (cv L).1)))∧∃Fi Ff Fw Fo Fr Fc Fe Fx,os=[ah (cv L).1.row [Fi,Ff,Fw,Fo,Fr,Fc,Fe,Fx]]:=by
 have cl:=oY s hs
 obtain⟨hL2,hok⟩:=hY hlx
 have hL:L.length≤1048576:=by omega
 have h40:∀t∈L,t.text.size≤40:=fun t ht=>sX (hok t ht)
 have hT:∀t∈L,t.text.size≤1048576:=fun t ht=>Nat.le_trans (h40 t ht) (by omega)
 have ct:=wC L hL hT h40 hL2
 have hb:((cv L).2 = -1∨0≤(cv L).2)∧(cv L).2≤L.length:=C5
 rw[hlx] at cl
 generalize (cv L).2=i at *
 generalize (cv L).1=x at *
 obtain⟨kz,⟨dz,iz,fz,wz,oz,lz⟩,tz,rz,cz,sz,hz⟩:=x
 simp only[Stmt.row_mk,Query.row_mk,ar,ERow.row_mk,rW,Val.row,lc,ah,Val.row,lc] at ct ⊢
 refine ab aa true Tryz.func75 rfl (by kernel_rfl) ?_
 simp only[Tryz.f75,tt,seval]
 refine cZ (cl) (by decide) ?_ ?_<;>simp only[tt,seval,l7]
 try simp only[tt,seval,not_false_eq_true,true_implies,false_implies,true_and]
 refine CallQ.intro (ct) ?_ ?_ ?_
 ·decide
 ·simp only[tt,seval,ah,Val.row,lc]
 rintro r os ⟨rfl,Fi,Ff,Fw,Fo,Fr,Fc,Fe,Fx,rfl⟩ hos
 simp only[tt,seval,ah,Val.row,lc]
 refine fun _=>?_
 by_cases hi:i=L.length
 ·have h0:(i=(L.length:Int))=True:=eq_true hi
  have ef:fK L s.size i (fI (Stmt.mk kz (Query.mk dz iz fz wz oz lz) tz rz cz sz hz))=(2,(s.size:Int)):=by
   unfold fK iy
   rw[if_pos (by omega),if_neg (by omega)]
  rw[ef]
  simp only[tt,seval,h0,true_implies,not_true_eq_false,false_implies,and_true]
  refine fun _=>?_
  refine⟨.ag (cx (2,(s.size:Int))),[ah (Stmt.mk kz (Query.mk dz iz fz wz oz lz) tz rz cz sz hz).row [Fi,Ff,Fw,Fo,Fr,Fc,Fe,Fx]],⟨rfl,Fi,Ff,Fw,Fo,Fr,Fc,Fe,Fx,by first|rfl|simp only[Stmt.row_mk,Query.row_mk,aF,ar,ERow.row_mk,srow,rW,ah,Val.row,lc]⟩,aj ?_⟩
  simp only[tt,seval,cx,Stmt.row_mk,Query.row_mk,aF,ar,ERow.row_mk,srow,rW,ah,Val.row,lc]
  first|done|((try refine⟨by omega,?_⟩);exact aA fun x=>by (try simp only[fb]);omega)
 ·have h0:(i=(L.length:Int))=False:=eq_false hi
  simp only[tt,seval,h0,not_false_eq_true,true_implies,false_implies,true_and]
  by_cases h1:0≤i
  ·have h1':(0≤i)=True:=eq_true h1
   obtain⟨j,rfl⟩:∃j:Nat,i=j:=⟨i.toNat,by omega⟩
   have hl:j<L.length:=by omega
   have hx:L[j]?=some L[j]:=List.getElem?_eq_getElem hl
   have ef:fK L s.size (j:Int) (fI (Stmt.mk kz (Query.mk dz iz fz wz oz lz) tz rz cz sz hz))=(2,(L[j]).at_):=by
    unfold fK iy
    rw[if_pos h1,if_pos (by omega),Int.toNat_natCast,List.getD_eq_getElem?_getD,hx];rfl
   have i0:((0:Int)≤(j:Int))=True:=eq_true (by omega)
   have iL:((j:Int)<(L.length:Int))=True:=eq_true (by omega)
   have iT:(j<L.length)=True:=eq_true hl
   rw[ef]
   generalize L[j]=tk at *
   simp only[tt,seval,h1',aN hx Tok.row_len,i0,iL,iT,Tok.row,true_implies,not_true_eq_false,false_implies,and_true]
   refine⟨.ag (cx (2,tk.at_)),[ah (Stmt.mk kz (Query.mk dz iz fz wz oz lz) tz rz cz sz hz).row [Fi,Ff,Fw,Fo,Fr,Fc,Fe,Fx]],⟨rfl,Fi,Ff,Fw,Fo,Fr,Fc,Fe,Fx,by first|rfl|simp only[Stmt.row_mk,Query.row_mk,aF,ar,ERow.row_mk,srow,rW,ah,Val.row,lc]⟩,aj ?_⟩
   simp only[tt,seval,cx,Stmt.row_mk,Query.row_mk,aF,ar,ERow.row_mk,srow,rW,ah,Val.row,lc]
   first|done|((try refine⟨by omega,?_⟩);exact aA fun x=>by (try simp only[fb]);omega)
  ·have h1':(0≤i)=False:=eq_false h1
   simp only[tt,seval,h1',not_false_eq_true,true_implies,false_implies,true_and]
   cases ho:fI (Stmt.mk kz (Query.mk dz iz fz wz oz lz) tz rz cz sz hz) with
   |true=>
    have ef:fK L s.size i true=(0,0):=by unfold fK;rw[if_neg h1,if_pos rfl]
    rw[ef]
    simp only[tt,seval,ho,Bool.not_true,Bool.false_eq_true]
    refine⟨.ag (cx (0,0)),[ah (Stmt.mk kz (Query.mk dz iz fz wz oz lz) tz rz cz sz hz).row [Fi,Ff,Fw,Fo,Fr,Fc,Fe,Fx]],⟨rfl,Fi,Ff,Fw,Fo,Fr,Fc,Fe,Fx,by first|rfl|simp only[Stmt.row_mk,Query.row_mk,aF,ar,ERow.row_mk,srow,rW,ah,Val.row,lc]⟩,aj ?_⟩
    simp only[tt,seval,cx,Stmt.row_mk,Query.row_mk,aF,ar,ERow.row_mk,srow,rW,ah,Val.row,lc]
    first|done|((try refine⟨by omega,?_⟩);exact aA fun x=>by (try simp only[fb]);omega)
   |false=>
    have ef:fK L s.size i false=(3,0):=by unfold fK;rw[if_neg h1,if_neg (by simp)]
    rw[ef]
    simp only[tt,seval,ho,Bool.not_false]
    refine⟨.ag (cx (3,0)),[ah (Stmt.mk kz (Query.mk dz iz fz wz oz lz) tz rz cz sz hz).row [Fi,Ff,Fw,Fo,Fr,Fc,Fe,Fx]],⟨rfl,Fi,Ff,Fw,Fo,Fr,Fc,Fe,Fx,by first|rfl|simp only[Stmt.row_mk,Query.row_mk,aF,ar,ERow.row_mk,srow,rW,ah,Val.row,lc]⟩,aj ?_⟩
    simp only[tt,seval,cx,Stmt.row_mk,Query.row_mk,aF,ar,ERow.row_mk,srow,rW,ah,Val.row,lc]
    first|done|((try refine⟨by omega,?_⟩);exact aA fun x=>by (try simp only[fb]);omega)
set_option maxHeartbeats 4000000 in
theorem uv (s:ByteArray) (hs:s.size≤1048576):Cl Tryz.prog 35 [vs s] [] fun r _=>∃Fi Ff Fw Fo Fr Fc Fe Fx,r = .tu [(ah (cK s).1.row [Fi,Ff,Fw,Fo,Fr,Fc,Fe,Fx],false),(cx (cK s).2,false)]:=by
 cases hlx:gi s with
 |inr p=>
  have e:cK s=(aF,(1,(p:Int))):=by unfold cK fj;rw[hlx]
  have cp:=ut s hs p hlx
  rw[e]
  refine ab aa true Tryz.func35 rfl (by kernel_rfl) ?_
  simp only[Tryz.f35,tt,seval]
  refine cS (cp) (by decide) ?_ ?_<;>simp only[tt,seval,cx]
  refine dDrawn.intro [] (.take 0 (.br 1 (.br 2 (.br 3 .done .nobr) .nobr) (.br 2 (.take 1 (.br 3 .done .nobr)) .nobr))) (by kernel_rfl) ?_
  simp only[tt,seval]
  all_goals
   repeat' with_reducible refine And.intro ?_ ?_
   all_goals
    refine⟨.tu [(ah (aF).row [[],[],[],[],[],[],[],[]],false),(cx (1,(p:Int)),false)],[],⟨[],[],[],[],[],[],[],[],by first|rfl|simp only[cx,Stmt.row_mk,Query.row_mk,aF,ar,ERow.row_mk,srow,rW,ah,Val.row,lc]⟩,aj ?_⟩
    simp only[tt,seval,cx,Stmt.row_mk,Query.row_mk,aF,ar,ERow.row_mk,srow,rW,ah,Val.row,lc]
    first|done|exact Sb.refl _|((try refine⟨by omega,?_⟩);exact aA fun x=>by (try simp only[fb]);omega)
 |inl L=>
  have e:cK s=(if 0≤(cv L).2 then aF else if fI (cv L).1=true then (cv L).1 else aF,fK L s.size (cv L).2 (fI (cv L).1)):=by unfold cK fj;rw[hlx]
  have cp:=uu s hs L hlx
  rw[e]
  generalize (cv L).2=i at *
  generalize (cv L).1=x at *
  obtain⟨kz,⟨dz,iz,fz,wz,oz,lz⟩,tz,rz,cz,sz,hz⟩:=x
  simp only[Stmt.row_mk,Query.row_mk,ah,Val.row,lc] at cp
  by_cases hi:0≤i
  ·have ef:fK L s.size i (fI (Stmt.mk kz (Query.mk dz iz fz wz oz lz) tz rz cz sz hz))=(2,iy L s.size i):=if_pos hi
   rw[if_pos hi,ef]
   rw[ef] at cp
   refine ab aa true Tryz.func35 rfl (by kernel_rfl) ?_
   simp only[Tryz.f35,tt,seval]
   refine CallQ.intro (cp) ?_ ?_ ?_
   ·decide
   ·simp only[tt,seval,cx,Stmt.row_mk,Query.row_mk,ah,Val.row,lc]
   rintro r os ⟨rfl,Fi,Ff,Fw,Fo,Fr,Fc,Fe,Fx,rfl⟩ hos
   simp only[tt,seval,cx,Stmt.row_mk,Query.row_mk,ah,Val.row,lc]
   refine dDrawn.intro [] (.take 0 (.br 1 (.br 2 (.br 3 .done .nobr) .nobr) (.br 2 (.take 1 (.br 3 .done .nobr)) .nobr))) (by kernel_rfl) ?_
   simp only[tt,seval]
   all_goals
    repeat' with_reducible refine And.intro ?_ ?_
    all_goals
     refine⟨.tu [(ah (aF).row [[],[],[],[],[],[],[],[]],false),(cx (2,iy L s.size i),false)],[],⟨[],[],[],[],[],[],[],[],by first|rfl|simp only[cx,Stmt.row_mk,Query.row_mk,aF,ar,ERow.row_mk,srow,rW,ah,Val.row,lc]⟩,aj ?_⟩
     simp only[tt,seval,cx,Stmt.row_mk,Query.row_mk,aF,ar,ERow.row_mk,srow,rW,ah,Val.row,lc]
     first|done|exact Sb.refl _|((try refine⟨by omega,?_⟩);exact aA fun x=>by (try simp only[fb]);omega)
  ·rw[if_neg hi]
   cases ho:fI (Stmt.mk kz (Query.mk dz iz fz wz oz lz) tz rz cz sz hz) with
   |true=>
    have ef:fK L s.size i true=(0,0):=by unfold fK;rw[if_neg hi,if_pos rfl]
    rw[if_pos rfl,ef]
    rw[ho] at cp
    rw[ef] at cp
    refine ab aa true Tryz.func35 rfl (by kernel_rfl) ?_
    simp only[Tryz.f35,tt,seval]
    refine CallQ.intro (cp) ?_ ?_ ?_
    ·decide
    ·simp only[tt,seval,cx,Stmt.row_mk,Query.row_mk,ah,Val.row,lc]
    rintro r os ⟨rfl,Fi,Ff,Fw,Fo,Fr,Fc,Fe,Fx,rfl⟩ hos
    simp only[tt,seval,cx,Stmt.row_mk,Query.row_mk,ah,Val.row,lc]
    refine dDrawn.intro [] (.take 0 (.br 1 (.br 2 (.br 3 .done .nobr) .nobr) (.br 2 (.take 1 (.br 3 .done .nobr)) .nobr))) (by kernel_rfl) ?_
    simp only[tt,seval]
    all_goals
     repeat' with_reducible refine And.intro ?_ ?_
     all_goals
      refine⟨.tu [(ah ((Stmt.mk kz (Query.mk dz iz fz wz oz lz) tz rz cz sz hz)).row [Fi,Ff,Fw,Fo,Fr,Fc,Fe,Fx],false),(cx (0,0),false)],[],⟨Fi,Ff,Fw,Fo,Fr,Fc,Fe,Fx,by first|rfl|simp only[cx,Stmt.row_mk,Query.row_mk,aF,ar,ERow.row_mk,srow,rW,ah,Val.row,lc]⟩,aj ?_⟩
      simp only[tt,seval,cx,Stmt.row_mk,Query.row_mk,aF,ar,ERow.row_mk,srow,rW,ah,Val.row,lc]
      first|done|exact Sb.refl _|((try refine⟨by omega,?_⟩);exact aA fun x=>by (try simp only[fb]);omega)
   |false=>
    have ef:fK L s.size i false=(3,0):=by unfold fK;rw[if_neg hi,if_neg (by simp)]
    rw[if_neg (by simp),ef]
    rw[ho] at cp
    rw[ef] at cp
    refine ab aa true Tryz.func35 rfl (by kernel_rfl) ?_
    simp only[Tryz.f35,tt,seval]
    refine CallQ.intro (cp) ?_ ?_ ?_
    ·decide
    ·simp only[tt,seval,cx,Stmt.row_mk,Query.row_mk,ah,Val.row,lc]
    rintro r os ⟨rfl,Fi,Ff,Fw,Fo,Fr,Fc,Fe,Fx,rfl⟩ hos
    simp only[tt,seval,cx,Stmt.row_mk,Query.row_mk,ah,Val.row,lc]
    refine dDrawn.intro [] (.take 0 (.br 1 (.br 2 (.br 3 .done .nobr) .nobr) (.br 2 (.take 1 (.br 3 .done .nobr)) .nobr))) (by kernel_rfl) ?_
    simp only[tt,seval]
    all_goals
     repeat' with_reducible refine And.intro ?_ ?_
     all_goals
      refine⟨.tu [(ah (aF).row [[],[],[],[],[],[],[],[]],false),(cx (3,0),false)],[],⟨[],[],[],[],[],[],[],[],by first|rfl|simp only[cx,Stmt.row_mk,Query.row_mk,aF,ar,ERow.row_mk,srow,rW,ah,Val.row,lc]⟩,aj ?_⟩
      simp only[tt,seval,cx,Stmt.row_mk,Query.row_mk,aF,ar,ERow.row_mk,srow,rW,ah,Val.row,lc]
      first|done|exact Sb.refl _|((try refine⟨by omega,?_⟩);exact aA fun x=>by (try simp only[fb]);omega)
end Go.Proofs.YteffjmaadkkmeaaGreatDoor
set_option maxRecDepth 8000
namespace Go.Proofs.YteffjmaadkkmeaaGreatDoor
open Go Go.Dv
open Go.Vc (D eb ec dK bN)
open Go.Cv
open Go.Vc (CellF ValsF aV Cells)
set_option maxHeartbeats 8000000 in
theorem rO (es:List ByteArray):rF 69 srow (fun k _=>bw k) (fun _=>1) es:=by
 intro w k v F h hn ho hg hlib h0 h1
 obtain⟨a,cap,rfl,hcap,hmax,hz⟩:=h.slice
 have hmax':cap≤9223372036854775807:=hmax
 have hM:=Mrk.start h hn ho
 clear h hn ho
 refine⟨by kernel_rfl,cY (vs:=[.slice a es.length cap,.int .i64 k]) Tryz.func69 rfl (Nat.le_of_ble_eq_true rfl) ?_⟩
 simp (maxSteps:=10000000) only[tt,cc,seval,Tryz.f69]
 refine⟨fun f w1=>∃i:Nat,f 5=vi i∧f 1=vi (k+aq (fun _=>1) (es.take i))∧i≤es.length∧Mrk w F w1 a ((d5 (fun k _=>bw k) (fun _=>1) k (es.take i)).flatMap srow) ((es.drop i).flatMap srow),fun f _=>(es.length-bn (f 5)).toNat,?_,?_⟩
 ·simp (maxSteps:=10000000) only[tt,cc,seval]
  exact⟨0,rfl,eX (by simp [aq]),by omega,by simpa [d5] using hM⟩
 ·rintro g w0 ⟨i,h5,h1',hi,hM⟩
  simp (maxSteps:=10000000) only[tt,cc,seval] at h5 h1'
  simp (maxSteps:=10000000) only[tt,cc,seval,h5,h1',Int.ofNat_lt]
  refine And.intro (fun hlt=>?_) (fun hge=>?_)
  ·have hlt:i<es.length:=by omega
   have hd:es.drop i=es[i]::es.drop (i+1):=List.drop_eq_getElem_cons hlt
   have hks:=bC (fun _=>1) es i hlt
   have hkl:=bY (fun _=>1) es (i+1)
   have hts:=dy (fun k _=>bw k) (fun _=>1) k es i hlt
   have hdl:((d5 (fun k _=>bw k) (fun _=>1) k (es.take i)).flatMap srow).length=i*1:=by rw[aT dB,am,List.length_take];congr 1;omega
   rw[hd,List.flatMap_cons] at hM
   generalize hk0:k+(aq (fun _=>1) (es.take i):Int)=k0 at *
   generalize hdone:(d5 (fun k _=>bw k) (fun _=>1) k (es.take i)).flatMap srow=done at *
   obtain⟨e,he⟩:∃e,es[i]=e:=⟨_,rfl⟩
   rw[he] at hM
   replace hks:aq (fun _=>1) (es.take (i+1))=aq (fun _=>1) (es.take i)+1:=hks
   simp only[srow,lc] at hM
   obtain⟨b,o,rfl,hM0⟩:=hM.open (by simp)
   clear hM
   have hc0:=hM0.chl
   obtain⟨hcb0,hcl0⟩:=cJ k0 w0 (bk hc0 hg hlib) (by omega)
   refine⟨hcb0,_,hcl0,?_⟩
   rintro _ w1 ⟨rfl,hgr0⟩
   replace hM1:=hM0.grow hgr0
   have hc1:=hM1.chl
   refine Stp.go ?_
   simp (maxSteps:=10000000) only[tt,cc,seval,h5,h1']
   obtain⟨q0,z0,w2,e1,hM2⟩:=Mrk1.st hM1 (o+i*1) (.string (bw k0)) (by simp [hdl];try omega) (dF (by omega))
   have hc2:=hM2.chl
   refine⟨by omega,by omega,q0,z0,w2,e1,Stp.go ?_⟩
   simp (maxSteps:=10000000) only[tt,cc,seval,h5,h1']
   rw[ak (n:=k0+1) (by omega) (by omega)]
   generalize hk1:k0+1=k1 at *
   rw[eE i (by omega)]
   refine⟨⟨i+1,rfl,eX (by rw[hks];omega),by omega,?_⟩,by simp only[bn];omega⟩
   rw[hts,List.flatMap_append]
   have:=hM2.close
   rw[hdone]
   simpa [srow,lc,Val.row,hk1,am,int,bool,str] using this
  ·have:i=es.length:=by omega
   subst this
   rw[List.take_length,List.drop_length] at hM
   obtain⟨hc,ho,hcg⟩:=hM.done hcap hmax hz
   exact⟨by rw[List.take_length],hc,ho,hcg⟩
mutual
def bg:ERow→Nat
 |.mk l=>0+aq ae l
end
mutual
def gM:Int→ERow→ERow
 |q,.mk l=>.mk (d5 bV ae (q) l)
end
theorem ko (l:List Expr):bg (.mk l)=0+aq ae l:=by simp only[bg,]
theorem tf (q:Int) (l:List Expr):gM q (.mk l) = .mk (d5 bV ae (q) l):=by simp only[gM,]
set_option maxHeartbeats 8000000 in
theorem rj (es:List ERow):rF 68 ERow.row gM bg es:=by
 intro w k v F h hn ho hg hlib h0 h1
 obtain⟨a,cap,rfl,hcap,hmax,hz⟩:=h.slice
 have hmax':cap≤9223372036854775807:=hmax
 have hM:=Mrk.start h hn ho
 clear h hn ho
 refine⟨by kernel_rfl,cY (vs:=[.slice a es.length cap,.int .i64 k]) Tryz.func68 rfl (Nat.le_of_ble_eq_true rfl) ?_⟩
 simp (maxSteps:=10000000) only[tt,cc,seval,Tryz.f68]
 refine⟨fun f w1=>∃i:Nat,f 5=vi i∧f 1=vi (k+aq bg (es.take i))∧i≤es.length∧Mrk w F w1 a ((d5 gM bg k (es.take i)).flatMap ERow.row) ((es.drop i).flatMap ERow.row),fun f _=>(es.length-bn (f 5)).toNat,?_,?_⟩
 ·simp (maxSteps:=10000000) only[tt,cc,seval]
  exact⟨0,rfl,eX (by simp [aq]),by omega,by simpa [d5] using hM⟩
 ·rintro g w0 ⟨i,h5,h1',hi,hM⟩
  simp (maxSteps:=10000000) only[tt,cc,seval] at h5 h1'
  simp (maxSteps:=10000000) only[tt,cc,seval,h5,h1',Int.ofNat_lt]
  refine And.intro (fun hlt=>?_) (fun hge=>?_)
  ·have hlt:i<es.length:=by omega
   have hd:es.drop i=es[i]::es.drop (i+1):=List.drop_eq_getElem_cons hlt
   have hks:=bC bg es i hlt
   have hkl:=bY bg es (i+1)
   have hts:=dy gM bg k es i hlt
   have hdl:((d5 gM bg k (es.take i)).flatMap ERow.row).length=i*1:=by rw[aT ERow.row_len,am,List.length_take];congr 1;omega
   rw[hd,List.flatMap_cons] at hM
   generalize hk0:k+(aq bg (es.take i):Int)=k0 at *
   generalize hdone:(d5 gM bg k (es.take i)).flatMap ERow.row=done at *
   obtain⟨e,he⟩:∃e,es[i]=e:=⟨_,rfl⟩
   rw[he] at hks hts hM
   obtain⟨l⟩:=e
   rw[ko] at hks
   simp only[ERow.row_mk,lc,Val.row] at hM
   obtain⟨b,o,rfl,hM0⟩:=hM.open (by simp)
   clear hM
   have hc0:=hM0.chl
   obtain⟨v0,G0,hv0,hd0,nd0,ow0,sb0,nx0⟩:=Mrk1.load hM0 (p:=o+i*1) (by simp [hdl];try omega)
   refine⟨by omega,by omega,_,hv0,?_⟩
   obtain⟨hcb0,hcl0⟩:=gZ _ w0 k0 v0 G0 hd0 nd0 ow0 (bk hc0 hg hlib) (fun t ht hm=>hlib t ht (sb0 _ hm)) (by omega) (by omega)
   refine⟨hcb0,_,hcl0,?_⟩
   rintro _ w1 ⟨rfl,cd0,ow0',cg0⟩
   have hM1:=nx0 _ _ cg0 cd0 ow0'
   have hc1:=hM1.chl
   refine Stp.go ?_
   simp (maxSteps:=10000000) only[tt,cc,seval,h5,h1']
   generalize hk1:k0+(aq ae l:Int)=k1 at *
   rw[eE i (by omega)]
   refine⟨⟨i+1,rfl,eX (by rw[hks];omega),by omega,?_⟩,by simp only[bn];omega⟩
   rw[hts,List.flatMap_append]
   have:=hM1.close
   rw[hdone]
   simpa [tf,ERow.row_mk,lc,Val.row,hk1,am,int,bool,str] using this
  ·have:i=es.length:=by omega
   subst this
   rw[List.take_length,List.drop_length] at hM
   obtain⟨hc,ho,hcg⟩:=hM.done hcap hmax hz
   exact⟨by rw[List.take_length],hc,ho,hcg⟩
theorem wD (es:List ERow):rF 68 ERow.row gM bg es:=rj es
theorem wE {w:World}:∀ {ds es:List D} {vs us:List Value} {F G:List Nat},ValsF w ds vs F→ValsF w es us G→ValsF w (ds++es) (vs++us) (F++G)
 | [],es,vs,us,F,G,h,k=>by
  obtain⟨rfl,rfl⟩:=nv h
  exact k
 |d::ds,es,vs,us,F,G,h,k=>by
  obtain⟨v,r,F1,R,rfl,c,hh,rfl⟩:=bI h
  rw[List.append_assoc]
  exact aY c (wE hh k)
theorem Do {w:World} {b:Nat} {t:TypeId} (pre va post:List Value) (hb:w.heap[b]?=some (.cells (pre++(va++post)).toArray t (0,0))):Cells w b pre.length va:=fun j v hj=>eQ hb (by
 rw[List.getElem?_toArray,List.getElem?_append_right (by omega),Nat.add_sub_cancel_left,List.getElem?_append_left (List.getElem?_eq_some_iff.1 hj).1];exact hj)
set_option maxHeartbeats 1000000 in
theorem xC (kind:Int) (query_distinct:Bool) (query_items:List Item) (query_from_:List Source) (query_where_:List Expr) (query_order:List SortKey) (query_limit:Int) (table:ByteArray) (rows:List ERow) (cols:List ByteArray) (sets:List Expr) (where_:List Expr) (q:Int) (w:World) (vs:List Value) (F:List Nat) (h:ValsF w (Stmt.mk kind (Query.mk query_distinct query_items query_from_ query_where_ query_order query_limit) table rows cols sets where_).row vs F) (hn:F.Nodup) (ho:OwnL w F) (hg:GlW w (fun _=>False)) (hlib:∀t∈dv,t.1 ∉ F) (h0:0≤q) (h1:q+(aq ay query_items:Int)+(aq ap query_from_:Int)+(aq ae query_where_:Int)+(aq au query_order:Int)+(aq bg rows:Int)+(aq (fun _=>1) cols:Int)+(aq ae sets:Int)+(aq ae where_:Int)≤4611686018427387904) :
 aV Tryz.prog 27=true∧Calls Tryz.prog 27 #[.agg vs.toArray,.int .i64 q] w fun e w'=>∃r,e = .returned r∧r = .int .i64 (q+(aq ay query_items:Int)+(aq ap query_from_:Int)+(aq ae query_where_:Int)+(aq au query_order:Int)+(aq bg rows:Int)+(aq (fun _=>1) cols:Int)+(aq ae sets:Int)+(aq ae where_:Int))∧ValsF w' (Stmt.mk kind (Query.mk query_distinct (d5 ei ay (q) query_items) (d5 cB ap (q+(aq ay query_items:Int)) query_from_) (d5 bV ae (q+(aq ay query_items:Int)+(aq ap query_from_:Int)) query_where_) (d5 bR au (q+(aq ay query_items:Int)+(aq ap query_from_:Int)+(aq ae query_where_:Int)) query_order) query_limit) table (d5 gM bg (q+(aq ay query_items:Int)+(aq ap query_from_:Int)+(aq ae query_where_:Int)+(aq au query_order:Int)) rows) (d5 (fun k _=>bw k) (fun _=>1) (q+(aq ay query_items:Int)+(aq ap query_from_:Int)+(aq ae query_where_:Int)+(aq au query_order:Int)+(aq bg rows:Int)) cols) (d5 bV ae (q+(aq ay query_items:Int)+(aq ap query_from_:Int)+(aq ae query_where_:Int)+(aq au query_order:Int)+(aq bg rows:Int)+(aq (fun _=>1) cols:Int)) sets) (d5 bV ae (q+(aq ay query_items:Int)+(aq ap query_from_:Int)+(aq ae query_where_:Int)+(aq au query_order:Int)+(aq bg rows:Int)+(aq (fun _=>1) cols:Int)+(aq ae sets:Int)) where_)).row vs F∧OwnL w' F∧ChL F w w':=by
 simp only[Stmt.row_mk] at h ⊢
 obtain⟨v0,r0,F0,R0,rfl,c0,hh0,rfl⟩:=bI h
 obtain⟨rfl,rfl,ok0⟩:=c0
 obtain⟨va,vb,Fa,Rb,rfl,rfl,ca,hhb⟩:=ValsF.split hh0
 obtain⟨v1,r1,F1,R1,rfl,c1,hh1,rfl⟩:=bI hhb
 obtain⟨rfl,rfl,ok1⟩:=c1
 obtain⟨v2,r2,F2,R2,rfl,c2,hh2,rfl⟩:=bI hh1
 obtain⟨v3,r3,F3,R3,rfl,c3,hh3,rfl⟩:=bI hh2
 obtain⟨v4,r4,F4,R4,rfl,c4,hh4,rfl⟩:=bI hh3
 obtain⟨v5,r5,F5,R5,rfl,c5,hh5,rfl⟩:=bI hh4
 obtain⟨rfl,rfl⟩:=nv hh5
 simp only[List.nil_append,List.append_nil] at hn ho hlib ⊢
 have hva:va.length=6:=ca.length.trans (Query.row_len _)
 have na:Fa.Nodup:=f9 hn (by intro x;simp only[List.count_append];omega)
 have n2:F2.Nodup:=f9 hn (by intro x;simp only[List.count_append];omega)
 have n3:F3.Nodup:=f9 hn (by intro x;simp only[List.count_append];omega)
 have n4:F4.Nodup:=f9 hn (by intro x;simp only[List.count_append];omega)
 have n5:F5.Nodup:=f9 hn (by intro x;simp only[List.count_append];omega)
 have oa:OwnL w Fa:=ho.sub (by intro x hx;simp [hx])
 have la:∀t∈dv,t.1 ∉ Fa:=fun t ht hm=>hlib t ht (by simp [hm])
 have o2:OwnL w F2:=ho.sub (by intro x hx;simp [hx])
 have l2:∀t∈dv,t.1 ∉ F2:=fun t ht hm=>hlib t ht (by simp [hm])
 have o3:OwnL w F3:=ho.sub (by intro x hx;simp [hx])
 have l3:∀t∈dv,t.1 ∉ F3:=fun t ht hm=>hlib t ht (by simp [hm])
 have o4:OwnL w F4:=ho.sub (by intro x hx;simp [hx])
 have l4:∀t∈dv,t.1 ∉ F4:=fun t ht hm=>hlib t ht (by simp [hm])
 have o5:OwnL w F5:=ho.sub (by intro x hx;simp [hx])
 have l5:∀t∈dv,t.1 ∉ F5:=fun t ht hm=>hlib t ht (by simp [hm])
 have da_2:∀x∈Fa,x ∉ F2:=fun x hx hy=>bD hn (by intro x;simp only[List.count_append];omega) x hx hy
 have da_3:∀x∈Fa,x ∉ F3:=fun x hx hy=>bD hn (by intro x;simp only[List.count_append];omega) x hx hy
 have da_4:∀x∈Fa,x ∉ F4:=fun x hx hy=>bD hn (by intro x;simp only[List.count_append];omega) x hx hy
 have da_5:∀x∈Fa,x ∉ F5:=fun x hx hy=>bD hn (by intro x;simp only[List.count_append];omega) x hx hy
 have d2_a:∀x∈F2,x ∉ Fa:=fun x hx hy=>bD hn (by intro x;simp only[List.count_append];omega) x hx hy
 have d2_3:∀x∈F2,x ∉ F3:=fun x hx hy=>bD hn (by intro x;simp only[List.count_append];omega) x hx hy
 have d2_4:∀x∈F2,x ∉ F4:=fun x hx hy=>bD hn (by intro x;simp only[List.count_append];omega) x hx hy
 have d2_5:∀x∈F2,x ∉ F5:=fun x hx hy=>bD hn (by intro x;simp only[List.count_append];omega) x hx hy
 have d3_a:∀x∈F3,x ∉ Fa:=fun x hx hy=>bD hn (by intro x;simp only[List.count_append];omega) x hx hy
 have d3_2:∀x∈F3,x ∉ F2:=fun x hx hy=>bD hn (by intro x;simp only[List.count_append];omega) x hx hy
 have d3_4:∀x∈F3,x ∉ F4:=fun x hx hy=>bD hn (by intro x;simp only[List.count_append];omega) x hx hy
 have d3_5:∀x∈F3,x ∉ F5:=fun x hx hy=>bD hn (by intro x;simp only[List.count_append];omega) x hx hy
 have d4_a:∀x∈F4,x ∉ Fa:=fun x hx hy=>bD hn (by intro x;simp only[List.count_append];omega) x hx hy
 have d4_2:∀x∈F4,x ∉ F2:=fun x hx hy=>bD hn (by intro x;simp only[List.count_append];omega) x hx hy
 have d4_3:∀x∈F4,x ∉ F3:=fun x hx hy=>bD hn (by intro x;simp only[List.count_append];omega) x hx hy
 have d4_5:∀x∈F4,x ∉ F5:=fun x hx hy=>bD hn (by intro x;simp only[List.count_append];omega) x hx hy
 have d5_a:∀x∈F5,x ∉ Fa:=fun x hx hy=>bD hn (by intro x;simp only[List.count_append];omega) x hx hy
 have d5_2:∀x∈F5,x ∉ F2:=fun x hx hy=>bD hn (by intro x;simp only[List.count_append];omega) x hx hy
 have d5_3:∀x∈F5,x ∉ F3:=fun x hx hy=>bD hn (by intro x;simp only[List.count_append];omega) x hx hy
 have d5_4:∀x∈F5,x ∉ F4:=fun x hx hy=>bD hn (by intro x;simp only[List.count_append];omega) x hx hy
 refine⟨by kernel_rfl,?_⟩
 have hcc:=fun R=>@cY Tryz.prog w 27 Tryz.f27 _ [.agg (.int .i64 kind::(va++[.string table,v2,v3,v4,v5]):List Value).toArray,.int .i64 q] R Tryz.func27 rfl (Nat.le_of_ble_eq_true rfl)
 refine hcc _ ?_
 simp (maxSteps:=10000000) only[tt,cc,seval,Tryz.f27,bG]
 intro b w1 hb hw1
 obtain⟨hbx,hg1⟩:=bz hb hw1
 try simp only[List.toList_toArray,Array.toArray_toList] at hbx
 have hlt:∀x∈Fa++(F2++(F3++(F4++F5))),x<b:=fun x hx=>by rw[hb];exact Go.Cv.vis_lt (ho.vis x hx)
 replace ca:=ca.grow hg1.grow
 replace oa:=oa.grow hg1.grow
 replace c2:=c2.grow hg1.grow
 replace o2:=o2.grow hg1.grow
 replace c3:=c3.grow hg1.grow
 replace o3:=o3.grow hg1.grow
 replace c4:=c4.grow hg1.grow
 replace o4:=o4.grow hg1.grow
 replace c5:=c5.grow hg1.grow
 replace o5:=o5.grow hg1.grow
 have hG:=d3 hg1 hg
 refine⟨va,hva,Do [.int .i64 kind] va _ hbx,?_⟩
 obtain⟨hcba,hcla⟩:=pt query_distinct query_items query_from_ query_where_ query_order query_limit q w1 va Fa ca na oa hG la h0 (by omega)
 refine⟨hcba,_,hcla,?_⟩
 rintro _ w2 ⟨rfl,ca,oa,ga⟩
 replace hbx:=(ga.keep b (bf hbx) (fun hm=>absurd (hlt b (by simp [hm])) (Nat.lt_irrefl _))).trans hbx
 replace hG:=bk ga hG la
 replace c2:=c2.chg ga.chg d2_a
 replace o2:=o2.other ga d2_a
 replace c3:=c3.chg ga.chg d3_a
 replace o3:=o3.other ga d3_a
 replace c4:=c4.chg ga.chg d4_a
 replace o4:=o4.other ga d4_a
 replace c5:=c5.chg ga.chg d5_a
 replace o5:=o5.other ga d5_a
 have gg0:ChL (Fa++(F2++(F3++(F4++F5)))) w1 w2:=ga.mono (by intro x hx;simp [hx])
 refine Stp.go ?_
 simp (maxSteps:=10000000) only[tt,cc,seval]
 refine⟨v2,eQ hbx (by simp [List.getElem?_append,hva]),?_⟩
 obtain⟨hcb2,hcl2⟩:=wD rows w2 (q+(aq ay query_items:Int)+(aq ap query_from_:Int)+(aq ae query_where_:Int)+(aq au query_order:Int)) v2 F2 c2 n2 o2 hG l2 (by omega) (by omega)
 refine⟨hcb2,_,hcl2,?_⟩
 rintro _ w3 ⟨rfl,c2,o2,g2⟩
 replace hbx:=(g2.keep b (bf hbx) (fun hm=>absurd (hlt b (by simp [hm])) (Nat.lt_irrefl _))).trans hbx
 replace hG:=bk g2 hG l2
 replace ca:=ca.chg g2.chg da_2
 replace oa:=oa.other g2 da_2
 replace c3:=c3.chg g2.chg d3_2
 replace o3:=o3.other g2 d3_2
 replace c4:=c4.chg g2.chg d4_2
 replace o4:=o4.other g2 d4_2
 replace c5:=c5.chg g2.chg d5_2
 replace o5:=o5.other g2 d5_2
 have gg1:ChL (Fa++(F2++(F3++(F4++F5)))) w2 w3:=g2.mono (by intro x hx;simp [hx])
 refine Stp.go ?_
 simp (maxSteps:=10000000) only[tt,cc,seval]
 refine⟨v3,eQ hbx (by simp [List.getElem?_append,hva]),?_⟩
 obtain⟨hcb3,hcl3⟩:=rO cols w3 (q+(aq ay query_items:Int)+(aq ap query_from_:Int)+(aq ae query_where_:Int)+(aq au query_order:Int)+(aq bg rows:Int)) v3 F3 c3 n3 o3 hG l3 (by omega) (by omega)
 refine⟨hcb3,_,hcl3,?_⟩
 rintro _ w4 ⟨rfl,c3,o3,g3⟩
 replace hbx:=(g3.keep b (bf hbx) (fun hm=>absurd (hlt b (by simp [hm])) (Nat.lt_irrefl _))).trans hbx
 replace hG:=bk g3 hG l3
 replace ca:=ca.chg g3.chg da_3
 replace oa:=oa.other g3 da_3
 replace c2:=c2.chg g3.chg d2_3
 replace o2:=o2.other g3 d2_3
 replace c4:=c4.chg g3.chg d4_3
 replace o4:=o4.other g3 d4_3
 replace c5:=c5.chg g3.chg d5_3
 replace o5:=o5.other g3 d5_3
 have gg2:ChL (Fa++(F2++(F3++(F4++F5)))) w3 w4:=g3.mono (by intro x hx;simp [hx])
 refine Stp.go ?_
 simp (maxSteps:=10000000) only[tt,cc,seval]
 refine⟨v4,eQ hbx (by simp [List.getElem?_append,hva]),?_⟩
 obtain⟨hcb4,hcl4⟩:=gZ sets w4 (q+(aq ay query_items:Int)+(aq ap query_from_:Int)+(aq ae query_where_:Int)+(aq au query_order:Int)+(aq bg rows:Int)+(aq (fun _=>1) cols:Int)) v4 F4 c4 n4 o4 hG l4 (by omega) (by omega)
 refine⟨hcb4,_,hcl4,?_⟩
 rintro _ w5 ⟨rfl,c4,o4,g4⟩
 replace hbx:=(g4.keep b (bf hbx) (fun hm=>absurd (hlt b (by simp [hm])) (Nat.lt_irrefl _))).trans hbx
 replace hG:=bk g4 hG l4
 replace ca:=ca.chg g4.chg da_4
 replace oa:=oa.other g4 da_4
 replace c2:=c2.chg g4.chg d2_4
 replace o2:=o2.other g4 d2_4
 replace c3:=c3.chg g4.chg d3_4
 replace o3:=o3.other g4 d3_4
 replace c5:=c5.chg g4.chg d5_4
 replace o5:=o5.other g4 d5_4
 have gg3:ChL (Fa++(F2++(F3++(F4++F5)))) w4 w5:=g4.mono (by intro x hx;simp [hx])
 refine Stp.go ?_
 simp (maxSteps:=10000000) only[tt,cc,seval]
 refine⟨v5,eQ hbx (by simp [List.getElem?_append,hva]),?_⟩
 obtain⟨hcb5,hcl5⟩:=gZ where_ w5 (q+(aq ay query_items:Int)+(aq ap query_from_:Int)+(aq ae query_where_:Int)+(aq au query_order:Int)+(aq bg rows:Int)+(aq (fun _=>1) cols:Int)+(aq ae sets:Int)) v5 F5 c5 n5 o5 hG l5 (by omega) (by omega)
 refine⟨hcb5,_,hcl5,?_⟩
 rintro _ w6 ⟨rfl,c5,o5,g5⟩
 replace hbx:=(g5.keep b (bf hbx) (fun hm=>absurd (hlt b (by simp [hm])) (Nat.lt_irrefl _))).trans hbx
 replace hG:=bk g5 hG l5
 replace ca:=ca.chg g5.chg da_5
 replace oa:=oa.other g5 da_5
 replace c2:=c2.chg g5.chg d2_5
 replace o2:=o2.other g5 d2_5
 replace c3:=c3.chg g5.chg d3_5
 replace o3:=o3.other g5 d3_5
 replace c4:=c4.chg g5.chg d4_5
 replace o4:=o4.other g5 d4_5
 have gg4:ChL (Fa++(F2++(F3++(F4++F5)))) w5 w6:=g5.mono (by intro x hx;simp [hx])
 refine Stp.go ?_
 simp (maxSteps:=10000000) only[tt,cc,seval]
 refine⟨?_,oa.app (o2.app (o3.app (o4.app o5))),(((((hg1.chl _).trans gg0).trans gg1).trans gg2).trans gg3).trans gg4⟩
 simpa [am] using (aY (eP ok0) (wE ca (aY (eP ok1) (aY c2 (aY c3 (aY c4 (aY c5 lj)))))))
mutual
def gN:Stmt→Nat
 |.mk kind (.mk query_distinct query_items query_from_ query_where_ query_order query_limit) table rows cols sets where_=>4+aq ay query_items+aq ap query_from_+aq ae query_where_+aq au query_order+aq bg rows+aq (fun _=>1) cols+aq ae sets+aq ae where_
end
theorem kp (kind:Int) (query_distinct:Bool) (query_items:List Item) (query_from_:List Source) (query_where_:List Expr) (query_order:List SortKey) (query_limit:Int) (table:ByteArray) (rows:List ERow) (cols:List ByteArray) (sets:List Expr) (where_:List Expr):gN (.mk kind (.mk query_distinct query_items query_from_ query_where_ query_order query_limit) table rows cols sets where_)=4+aq ay query_items+aq ap query_from_+aq ae query_where_+aq au query_order+aq bg rows+aq (fun _=>1) cols+aq ae sets+aq ae where_:=by simp only[gN,]
set_option maxHeartbeats 8000000 in
theorem rP (es:List ByteArray):ue 71 srow (fun k _=>bw k) (fun _=>1) es:=by
 intro k h0 hk
 obtain⟨ms,hms⟩:∃ms,ms=d5 (fun k _=>bw k) (fun _=>1) k es:=⟨_,rfl⟩
 have hml:es.length=ms.length:=by rw[hms,am]
 rw[←hms,hml]
 refine ab aa false Tryz.func71 rfl (by kernel_rfl) ?_
 simp only[Tryz.f71,tt,seval]
 refine dLoop.intro (fun f L p=>∃i:Nat,f 5=vi i∧f 1=vi (k+aq (fun _=>1) (es.take i))∧i≤ms.length∧L=[]∧p=none) (fun f _ _=>(ms.length-bn (f 5)).toNat) [] none ⟨SubO.nil _,PoSub.none _,?_⟩ ?_
 ·simp only[tt,seval]
  exact⟨0,rfl,eX (by simp [aq]),by omega⟩
 ·rintro g L p ⟨i,h5,h1,hi,rfl,rfl⟩
  simp only[tt,seval] at h5 h1
  simp only[tt,seval,h5,h1,Int.ofNat_lt]
  refine fun _=>And.intro (fun hlt=>?_) (fun hge=>?_)
  ·have hlt:i<ms.length:=by omega
   have hlt':i<es.length:=by omega
   have hks:=bC (fun _=>1) es i hlt'
   have hkl:=bY (fun _=>1) es (i+1)
   have hx':ms[i]?=some ((fun k _=>bw k) (k+aq (fun _=>1) (es.take i)) es[i]):=by rw[hms];exact jp _ _ _ _ _ hlt'
   generalize hk0:k+(aq (fun _=>1) (es.take i):Int)=k0 at *
   obtain⟨e,he⟩:∃e,es[i]=e:=⟨_,rfl⟩
   rw[he] at hx'
   replace hks:aq (fun _=>1) (es.take (i+1))=aq (fun _=>1) (es.take i)+1:=hks
   replace hx':ms[i]?=some (bw k0):=hx'
   have i0:((0:Int)≤(i:Int))=True:=eq_true (by omega)
   have iL:((i:Int)<(ms.length:Int))=True:=eq_true (by omega)
   have iT:(i<ms.length)=True:=eq_true hlt
   simp only[tt,seval,h5,h1,aN hx' dB,i0,iL,iT,am,srow,Val.row,lc,List.append_assoc]
   refine dDrawn.intro [] (gG [0,2,4,6,8,11,12]) (by kernel_rfl) ?_
   simp only[tt,seval]
   all_goals try simp only[tt,seval,h5,h1,aN hx' dB,i0,iL,iT,am,srow,Val.row,lc,List.append_assoc]
   refine cZ (cI (k0) (by omega)) (by decide) ?_ ?_<;>simp only[tt,seval,h5,h1,aN hx' dB,i0,iL,iT,am,srow,Val.row,lc,List.append_assoc]
   rw[ak (n:=k0+1) (by omega) (by omega)]
   generalize hk1:k0+1=k1 at *
   try simp only[tt,seval,h5,h1,aN hx' dB,i0,iL,iT,am,srow,Val.row,lc,List.append_assoc]
   rw[eE i (by omega)]
   exact⟨[],none,SubO.nil _,PoSub.none _,⟨i+1,rfl,eX (by rw[hks];omega),by omega,rfl,rfl⟩,by simp only[bn];omega⟩
  ·have:i=es.length:=by omega
   subst this
   rw[List.take_length] at h1
   refine⟨_,_,?_,ac rfl⟩
   first|rfl|(rw[List.take_length])|simp only[List.take_length]
set_option maxHeartbeats 8000000 in
theorem wF (es:List ERow):ue 70 ERow.row gM bg es:=by
 intro k h0 hk
 obtain⟨ms,hms⟩:∃ms,ms=d5 gM bg k es:=⟨_,rfl⟩
 have hml:es.length=ms.length:=by rw[hms,am]
 rw[←hms,hml]
 refine ab aa false Tryz.func70 rfl (by kernel_rfl) ?_
 simp only[Tryz.f70,tt,seval]
 refine dLoop.intro (fun f L p=>∃i:Nat,f 5=vi i∧f 1=vi (k+aq bg (es.take i))∧i≤ms.length∧L=[]∧p=none) (fun f _ _=>(ms.length-bn (f 5)).toNat) [] none ⟨SubO.nil _,PoSub.none _,?_⟩ ?_
 ·simp only[tt,seval]
  exact⟨0,rfl,eX (by simp [aq]),by omega⟩
 ·rintro g L p ⟨i,h5,h1,hi,rfl,rfl⟩
  simp only[tt,seval] at h5 h1
  simp only[tt,seval,h5,h1,Int.ofNat_lt]
  refine fun _=>And.intro (fun hlt=>?_) (fun hge=>?_)
  ·have hlt:i<ms.length:=by omega
   have hlt':i<es.length:=by omega
   have hks:=bC bg es i hlt'
   have hkl:=bY bg es (i+1)
   have hx':ms[i]?=some (gM (k+aq bg (es.take i)) es[i]):=by rw[hms];exact jp _ _ _ _ _ hlt'
   generalize hk0:k+(aq bg (es.take i):Int)=k0 at *
   obtain⟨e,he⟩:∃e,es[i]=e:=⟨_,rfl⟩
   rw[he] at hx' hks
   obtain⟨l⟩:=e
   rw[ko] at hks
   rw[tf] at hx'
   have i0:((0:Int)≤(i:Int))=True:=eq_true (by omega)
   have iL:((i:Int)<(ms.length:Int))=True:=eq_true (by omega)
   have iT:(i<ms.length)=True:=eq_true hlt
   simp only[tt,seval,h5,h1,aN hx' ERow.row_len,i0,iL,iT,am,ERow.row_mk,Val.row,lc,List.append_assoc]
   refine cZ (hD l (k0) (by omega) (by omega)) (by decide) ?_ ?_<;>simp only[tt,seval,h5,h1,aN hx' ERow.row_len,i0,iL,iT,am,ERow.row_mk,Val.row,lc,List.append_assoc]
   have ng0:decide (k0+(aq ae l:Int)<0)=false:=decide_eq_false (by omega)
   have np0:(k0+(aq ae l:Int)<0)=False:=eq_false (by omega)
   try simp only[tt,seval,ng0,np0,h5,h1,aN hx' ERow.row_len,i0,iL,iT,am,ERow.row_mk,Val.row,lc,List.append_assoc]
   generalize hk1:k0+(aq ae l:Int)=k1 at *
   rw[eE i (by omega)]
   exact⟨[],none,SubO.nil _,PoSub.none _,⟨i+1,rfl,eX (by rw[hks];omega),by omega,rfl,rfl⟩,by simp only[bn];omega⟩
  ·have:i=es.length:=by omega
   subst this
   rw[List.take_length] at h1
   refine⟨_,_,?_,ac rfl⟩
   first|rfl|(rw[List.take_length])|simp only[List.take_length]
theorem xD (kind:Int) (query_distinct:Bool) (query_items:List Item) (query_from_:List Source) (query_where_:List Expr) (query_order:List SortKey) (query_limit:Int) (table:ByteArray) (rows:List ERow) (cols:List ByteArray) (sets:List Expr) (where_:List Expr) (q:Int) (h0:0≤q) (h1:q+(aq ay query_items:Int)+(aq ap query_from_:Int)+(aq ae query_where_:Int)+(aq au query_order:Int)+(aq bg rows:Int)+(aq (fun _=>1) cols:Int)+(aq ae sets:Int)+(aq ae where_:Int)≤4611686018427387904):Cl Tryz.prog 28 [.ag (an (Stmt.mk kind (Query.mk query_distinct (d5 ei ay (q) query_items) (d5 cB ap (q+(aq ay query_items:Int)) query_from_) (d5 bV ae (q+(aq ay query_items:Int)+(aq ap query_from_:Int)) query_where_) (d5 bR au (q+(aq ay query_items:Int)+(aq ap query_from_:Int)+(aq ae query_where_:Int)) query_order) query_limit) table (d5 gM bg (q+(aq ay query_items:Int)+(aq ap query_from_:Int)+(aq ae query_where_:Int)+(aq au query_order:Int)) rows) (d5 (fun k _=>bw k) (fun _=>1) (q+(aq ay query_items:Int)+(aq ap query_from_:Int)+(aq ae query_where_:Int)+(aq au query_order:Int)+(aq bg rows:Int)) cols) (d5 bV ae (q+(aq ay query_items:Int)+(aq ap query_from_:Int)+(aq ae query_where_:Int)+(aq au query_order:Int)+(aq bg rows:Int)+(aq (fun _=>1) cols:Int)) sets) (d5 bV ae (q+(aq ay query_items:Int)+(aq ap query_from_:Int)+(aq ae query_where_:Int)+(aq au query_order:Int)+(aq bg rows:Int)+(aq (fun _=>1) cols:Int)+(aq ae sets:Int)) where_)).row),vi q] [] fun r _=>r=vi (q+(aq ay query_items:Int)+(aq ap query_from_:Int)+(aq ae query_where_:Int)+(aq au query_order:Int)+(aq bg rows:Int)+(aq (fun _=>1) cols:Int)+(aq ae sets:Int)+(aq ae where_:Int)):=by
 have hq:=pu query_distinct query_items query_from_ query_where_ query_order query_limit q h0 (by omega)
 simp only[Stmt.row_mk,Query.row_mk,lc,am] at hq ⊢
 refine ab aa false Tryz.func28 rfl (by kernel_rfl) ?_
 simp only[Tryz.f28,tt,seval]
 refine cZ (hq) (by decide) ?_ ?_<;>simp only[tt,seval,Stmt.row_mk,Query.row_mk,lc,am]
 have ng0:decide (q+(aq ay query_items:Int)+(aq ap query_from_:Int)+(aq ae query_where_:Int)+(aq au query_order:Int)<0)=false:=decide_eq_false (by omega)
 have np0:(q+(aq ay query_items:Int)+(aq ap query_from_:Int)+(aq ae query_where_:Int)+(aq au query_order:Int)<0)=False:=eq_false (by omega)
 try simp only[tt,seval,ng0,np0,Stmt.row_mk,Query.row_mk,lc,am]
 refine cZ (wF rows (q+(aq ay query_items:Int)+(aq ap query_from_:Int)+(aq ae query_where_:Int)+(aq au query_order:Int)) (by omega) (by omega)) (by decide) ?_ ?_<;>simp only[tt,seval,Stmt.row_mk,Query.row_mk,lc,am]
 have ng1:decide (q+(aq ay query_items:Int)+(aq ap query_from_:Int)+(aq ae query_where_:Int)+(aq au query_order:Int)+(aq bg rows:Int)<0)=false:=decide_eq_false (by omega)
 have np1:(q+(aq ay query_items:Int)+(aq ap query_from_:Int)+(aq ae query_where_:Int)+(aq au query_order:Int)+(aq bg rows:Int)<0)=False:=eq_false (by omega)
 try simp only[tt,seval,ng1,np1,Stmt.row_mk,Query.row_mk,lc,am]
 refine cZ (rP cols (q+(aq ay query_items:Int)+(aq ap query_from_:Int)+(aq ae query_where_:Int)+(aq au query_order:Int)+(aq bg rows:Int)) (by omega) (by omega)) (by decide) ?_ ?_<;>simp only[tt,seval,Stmt.row_mk,Query.row_mk,lc,am]
 have ng2:decide (q+(aq ay query_items:Int)+(aq ap query_from_:Int)+(aq ae query_where_:Int)+(aq au query_order:Int)+(aq bg rows:Int)+(aq (fun _=>1) cols:Int)<0)=false:=decide_eq_false (by omega)
 have np2:(q+(aq ay query_items:Int)+(aq ap query_from_:Int)+(aq ae query_where_:Int)+(aq au query_order:Int)+(aq bg rows:Int)+(aq (fun _=>1) cols:Int)<0)=False:=eq_false (by omega)
 try simp only[tt,seval,ng2,np2,Stmt.row_mk,Query.row_mk,lc,am]
 refine cZ (hD sets (q+(aq ay query_items:Int)+(aq ap query_from_:Int)+(aq ae query_where_:Int)+(aq au query_order:Int)+(aq bg rows:Int)+(aq (fun _=>1) cols:Int)) (by omega) (by omega)) (by decide) ?_ ?_<;>simp only[tt,seval,Stmt.row_mk,Query.row_mk,lc,am]
 have ng3:decide (q+(aq ay query_items:Int)+(aq ap query_from_:Int)+(aq ae query_where_:Int)+(aq au query_order:Int)+(aq bg rows:Int)+(aq (fun _=>1) cols:Int)+(aq ae sets:Int)<0)=false:=decide_eq_false (by omega)
 have np3:(q+(aq ay query_items:Int)+(aq ap query_from_:Int)+(aq ae query_where_:Int)+(aq au query_order:Int)+(aq bg rows:Int)+(aq (fun _=>1) cols:Int)+(aq ae sets:Int)<0)=False:=eq_false (by omega)
 try simp only[tt,seval,ng3,np3,Stmt.row_mk,Query.row_mk,lc,am]
 refine cZ (hD where_ (q+(aq ay query_items:Int)+(aq ap query_from_:Int)+(aq ae query_where_:Int)+(aq au query_order:Int)+(aq bg rows:Int)+(aq (fun _=>1) cols:Int)+(aq ae sets:Int)) (by omega) (by omega)) (by decide) ?_ ?_<;>simp only[tt,seval,Stmt.row_mk,Query.row_mk,lc,am]
 have ng4:decide (q+(aq ay query_items:Int)+(aq ap query_from_:Int)+(aq ae query_where_:Int)+(aq au query_order:Int)+(aq bg rows:Int)+(aq (fun _=>1) cols:Int)+(aq ae sets:Int)+(aq ae where_:Int)<0)=false:=decide_eq_false (by omega)
 have np4:(q+(aq ay query_items:Int)+(aq ap query_from_:Int)+(aq ae query_where_:Int)+(aq au query_order:Int)+(aq bg rows:Int)+(aq (fun _=>1) cols:Int)+(aq ae sets:Int)+(aq ae where_:Int)<0)=False:=eq_false (by omega)
 try simp only[tt,seval,ng4,np4,Stmt.row_mk,Query.row_mk,lc,am]
 exact⟨_,_,rfl,ac rfl⟩
theorem wG (s:Stmt):Cl Tryz.prog 26 [.ag (an s.row),.ag (an s.row)] [] fun r _=>r=vb true:=by
 obtain⟨kind,q,table,rows,cols,sets,where2⟩:=s
 exact uH kind q table rows cols sets where2
end Go.Proofs.YteffjmaadkkmeaaGreatDoor
set_option maxRecDepth 8000
namespace Go.Proofs.YteffjmaadkkmeaaGreatDoor
open Go Go.Dv
open Go.Vc (D eb ec dK bN)
section
variable {L:List Tok} {f:Nat→PM Expr} {q:PM Query}
theorem Wt.row (hf:∀lv,Wt (f lv) ae 8):Wt (mt L f) bg 9:=fun s x s' h=>by
 unfold mt at h
 split at h
 ·cases h
 ·rename_i y s1 h1
  injection h with h;injection h with hx h;subst hx h
  have a1:=Wt.ors hf _ _ _ h1
  have m1:=bQ (be L s 40) s
  have m2:=bQ (be L s1 41) s1
  (try simp only[kp,ko,aQ,aq,aJ,b8,cD,aF,ar] at *);omega
theorem Wt.rows (hf:∀lv,Wt (f lv) ae 8):Wt (lm L f) (aq bg) 9:=fun s x s' h=>by
 unfold lm at h
 split at h
 ·cases h
 ·rename_i y s1 h1
  have a1:=Wt.row hf _ _ _ h1
  have a2:=Wt.sep (by omega) (Wt.row hf) _ _ _ _ _ h
  (try simp only[kp,ko,aQ,aq,aJ,b8,cD,aF,ar] at *);omega
def yR (x:ByteArray×Expr):Nat:=1+ae x.2
theorem Wt.set1 (hf:∀lv,Wt (f lv) ae 8):Wt (lp L f) yR 9:=fun s x s' h=>by
 unfold lp at h
 simp only at h
 split at h
 ·cases h
 ·rename_i y s1 h1
  injection h with h;injection h with hx h;subst hx h
  have m1:=jr (L:=L) 2 s
  have m2:=bQ (be L (mText L 2 s).2 61) (mText L 2 s).2
  have a1:=hf 1 _ _ _ h1
  show 1+ae y+64*s.a≤9+64*s1.a
  omega
theorem Wt.sets (hf:∀lv,Wt (f lv) ae 8):Wt (mD L f) (aq yR) 9:=fun s x s' h=>by
 unfold mD at h
 split at h
 ·cases h
 ·rename_i y s1 h1
  have a1:=Wt.set1 hf _ _ _ h1
  have a2:=Wt.sep (by omega) (Wt.set1 hf) _ _ _ _ _ h
  (try simp only[kp,ko,aQ,aq,aJ,b8,cD,aF,ar] at *);omega
theorem wH:∀l:List (ByteArray×Expr),aq (fun _=>1) (l.map (·.1))+aq ae (l.map (·.2))=aq yR l
 | []=>rfl
 |x::r=>by
  have:=wH r
  simp only[List.map_cons,aq,yR] at *
  omega
theorem C9:aG ar=2:=by decide
theorem mn (k:Int) (q:Query) (t:ByteArray) (r:List ERow) (c:List ByteArray) (e w:List Expr):gN (.mk k q t r c e w)=2+aG q+(aq bg r+(aq (fun _=>1) c+aq ae e)+aq ae w):=by
 obtain⟨a,b,c,d,e,f⟩:=q
 rw[kp,aQ];omega
theorem Wt.stmt (hf:∀lv,Wt (f lv) ae 8) (hq:Wt q aG 15):Wt (ik L f q) gN 40:=fun s x s' h=>by
 unfold ik at h
 split at h
 ·split at h
  ·cases h
  rename_i y s1 h1
  injection h with h;injection h with hx h;subst hx h
  have a1:=hq _ _ _ h1
  rw[mn]
  simp only[aq];omega
 split at h
 ·unfold iq at h
  simp only at h
  have m1:=bQ (al L (adv s) 24) (adv s)
  generalize must (al L (adv s) 24) (adv s)=u1 at *
  have m2:=jr (L:=L) 2 u1
  generalize (mText L 2 u1).2=u2 at *
  have m3:=bQ (al L u2 25) u2
  split at h
  ·cases h
  rename_i y s1 h1
  injection h with h;injection h with hx h;subst hx h
  have a1:=Wt.rows hf _ _ _ h1
  rw[mn,C9]
  rw[b8] at m1
  simp only[aq];omega
 split at h
 ·unfold ir at h
  simp only at h
  have m1:=jr (L:=L) 2 (adv s)
  generalize (mText L 2 (adv s)).2=u1 at *
  have m2:=bQ (al L u1 27) u1
  split at h
  ·cases h
  rename_i y s1 h1
  split at h
  ·cases h
  rename_i z s2 h2
  injection h with h;injection h with hx h;subst hx h
  have a1:=Wt.sets hf _ _ _ h1
  have a2:=Wt.wher hf _ _ _ h2
  rw[mn,C9,wH]
  rw[b8] at m1
  simp only[aq];omega
 split at h
 ·unfold ji at h
  simp only at h
  have m1:=bQ (al L (adv s) 3) (adv s)
  generalize must (al L (adv s) 3) (adv s)=u1 at *
  have m2:=jr (L:=L) 2 u1
  generalize (mText L 2 u1).2=u2 at *
  split at h
  ·cases h
  rename_i y s1 h1
  injection h with h;injection h with hx h;subst hx h
  have a1:=Wt.wher hf _ _ _ h1
  rw[mn,C9]
  rw[b8] at m1
  simp only[aq];omega
 ·injection h with h;injection h with hx h;subst hx h
  show gN aF+64*s.a≤40+64*s.a
  have:gN aF≤40:=by decide
  omega
theorem Ca (hL:L.length≤1048576):gN (cv L).1≤100000000:=by
 unfold cv
 cases h:ik L (iP L) (i7 L) s0 with
 |none=>exact (by decide:gN aF≤100000000)
 |some p=>
  obtain⟨x,s⟩:=p
  have h1:=Wt.stmt (qX (L:=L) (pD L)).1 (qX (L:=L) (pD L)).2 _ _ _ h
  have h2:=(OkM.stmt (fun lv=>ey (L:=L) lv) ez _ _ _ h).2.1 (Nat.zero_le _)
  unfold dC
  simp only
  split
  ·exact (by decide:gN aF≤100000000)
  ·show gN x≤_
   omega
end
end Go.Proofs.YteffjmaadkkmeaaGreatDoor
