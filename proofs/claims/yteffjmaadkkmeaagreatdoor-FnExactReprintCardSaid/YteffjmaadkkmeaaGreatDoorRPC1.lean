/-
  The reference's parser, first half.
  Conditions: none.
-/
import Derived.Test.YteffjmaadkkmeaaGreatDoorRPF2
set_option linter.unusedVariables false
set_option linter.unusedSimpArgs false
set_option linter.unusedSectionVars false
set_option maxRecDepth 8000
namespace Go.Proofs.YteffjmaadkkmeaaGreatDoor
open Go Go.Dv
open Go.Vc (D cY d3 cN bk)
def PB (L:List Tok) (s:PS):List C:=[.sl L.length (L.flatMap Tok.row) none,.v (.int .i64 s.a),.v (.bool s.b)]
def oV (L:List Tok) (s:PS) (k:Nat):Tok:=(iD L s k).getD ⟨0,⟨#[]⟩,0⟩
theorem zR (L:List Tok) (s:PS) (k:Nat) (kind:Int) (x:ByteArray) (h:kind≠0):(decide ((oV L s k).kind=kind)&&decide ((oV L s k).text=x))=ki L s k kind x:=by
 unfold oV ki
 cases iD L s k with
 |none=>simp [Ne.symm h]
 |some t=>rfl
theorem F7 (L:List Tok) (s:PS) (kind:Int) (h:kind≠0):(decide ((oV L s 0).kind=kind)&&aW (oV L s 0))=mN L s kind:=by
 unfold oV mN
 cases iD L s 0 with
 |none=>simp [Ne.symm h]
 |some t=>rfl
theorem x6 (L:List Tok) (s:PS):(oV L s 0).text=bI L s:=by
 unfold oV bI
 cases iD L s 0 with
 |none=>rfl
 |some t=>rfl
theorem ug {L:List Tok} (hL:L.length<=1048576) (hT:∀t∈L,t.text.size<=1048576) (s:PS) (k:Nat):(oV L s k).text.size<=1048576:=by
 unfold oV
 cases h:iD L s k with
 |none=>exact Nat.zero_le _
 |some t=>
  unfold iD at h
  split at h
  ·cases h
  ·exact hT t (List.mem_of_getElem? h)
theorem fN (L:List Tok) (hL:L.length<=1048576) (hT:∀t∈L,t.text.size<=1048576) (s:PS) (k:Nat) (hk:k<=100) (ha:s.a<=L.length):Cl Tryz.prog 152 [.c (.p 9000 0),vi k] [PB L s] fun r os=>r = .ag (av (oV L s k).row)/\os=[PB L s]:=by
 obtain⟨a,b⟩:=s
 have ha:a<=L.length:=ha
 cases b with
 |true=>
  have e:oV L ⟨a,true⟩ k=⟨0,⟨#[]⟩,0⟩:=rfl
  rw[e]
  refine ae ab false Tryz.func152 rfl (by kernel_rfl) ?_
  simp only[Tryz.f152,tt,seval]
  refine dDrawn.intro [] (iK [0,2,4,6,8,10,12,14,16,18,20,22,24,26,28,30,32,34]) (by kernel_rfl) ?_
  simp only[tt,seval]
  simp only[tt,seval,PB]
  refine⟨_,[PB L ⟨a,true⟩],⟨rfl,rfl⟩,am ?_⟩
  simp only[tt,seval,PB,Tok.row]
  rfl
 |false=>
  refine ae ab false Tryz.func152 rfl (by kernel_rfl) ?_
  simp only[Tryz.f152,tt,seval]
  refine dDrawn.intro [] (iK [0,2,4,6,8,10,12,14,16,18,20,22,24,26,28,30,32,34]) (by kernel_rfl) ?_
  simp only[tt,seval]
  simp only[tt,seval,PB]
  rw[ax (n:=(a:Int)+k) (by omega) (by omega)]
  refine fun _=>aa (fun hge=>?_) (fun hlt=>?_)
  ·have e:oV L ⟨a,false⟩ k=⟨0,⟨#[]⟩,0⟩:=by
    show (L[a+k]?).getD _=_
    rw[List.getElem?_eq_none_iff.2 (by omega)];rfl
   rw[e]
   refine⟨_,[PB L ⟨a,false⟩],⟨rfl,rfl⟩,am ?_⟩
   simp only[tt,seval,PB,Tok.row]
   rfl
  ·have hlt:a+k<L.length:=by omega
   have e:oV L ⟨a,false⟩ k=L[a+k]:=by
    show (L[a+k]?).getD _=_
    rw[ay hlt];rfl
   rw[e]
   refine dDrawn.intro [] (iK [0,2,4,6,8,10,12,14,16,18,20,22,25]) (by kernel_rfl) ?_
   simp only[tt,seval]
   rw[ax (n:=(a:Int)+k) (by omega) (by omega)]
   have e2:((a:Int)+(k:Int)).toNat=a+k:=by omega
   simp only[e2]
   refine⟨by omega,by omega,_,aF kh (ay (by omega)),Tok.ne _ _,?_⟩
   simp only[tt,seval,Tok.row]
   refine⟨_,[PB L ⟨a,false⟩],⟨rfl,rfl⟩,am ?_⟩
   simp only[tt,seval,PB]
theorem cO (L:List Tok) (hL:L.length<=1048576) (hT:∀t∈L,t.text.size<=1048576) (s:PS) (k:Nat) (h1:1<=k) (h2:k<=28) (ha:s.a<=L.length):Cl Tryz.prog 94 [.c (.p 9000 0),vi k] [PB L s] fun r os=>r=vb (au L s k)/\os=[PB L s]:=by
 rw[show au L s k=_ from (zR L s 0 1 (kw k) (by decide)).symm]
 refine ae ab false Tryz.func94 rfl (by kernel_rfl) ?_
 simp only[Tryz.f94,tt,seval]
 refine cS (fN L hL hT s 0 (by omega) ha) ?_ ?_<;>simp only[tt,seval,PB,Tok.row]
 refine dDrawn.intro [] (iK [0,2,4,6,8,10,12,15,16,18,20]) (by kernel_rfl) ?_
 simp only[tt,seval]
 generalize oV L s 0=t at *
 by_cases hk:t.kind=1
 ·simp only[tt,seval,ap hk]
  refine cZ (rj k h1 h2) ?_ ?_<;>simp only[tt,seval]
  refine⟨_,[PB L s],⟨rfl,rfl⟩,am ?_⟩
  simp only[tt,seval,PB]
 ·simp only[tt,seval,ao hk]
  refine⟨_,[PB L s],⟨rfl,rfl⟩,am ?_⟩
  simp only[tt,seval,PB]
theorem ym (L:List Tok) (hL:L.length<=1048576) (hT:∀t∈L,t.text.size<=1048576) (s:PS) (x:ByteArray) (ha:s.a<=L.length):Cl Tryz.prog 88 [.c (.p 9000 0),vs x] [PB L s] fun r os=>r=vb (ki L s 0 5 x)/\os=[PB L s]:=by
 rw[show ki L s 0 5 x=_ from (zR L s 0 5 x (by decide)).symm]
 refine ae ab false Tryz.func88 rfl (by kernel_rfl) ?_
 simp only[Tryz.f88,tt,seval]
 refine cS (fN L hL hT s 0 (by omega) ha) ?_ ?_<;>simp only[tt,seval,PB,Tok.row]
 generalize oV L s 0=t at *
 by_cases hk:t.kind=5
 ·simp only[tt,seval,ap hk]
  refine⟨_,[PB L s],⟨rfl,rfl⟩,am ?_⟩
  simp only[tt,seval,PB]
 ·simp only[tt,seval,ao hk]
  refine⟨_,[PB L s],⟨rfl,rfl⟩,am ?_⟩
  simp only[tt,seval,PB]
theorem iX (L:List Tok) (hL:L.length<=1048576) (hT:∀t∈L,t.text.size<=1048576) (s:PS) (k:Nat) (h1:1<=k) (ha:s.a<=L.length):Cl Tryz.prog 153 [.c (.p 9000 0),vi k] [PB L s] fun r os=>r=vb (mN L s k)/\os=[PB L s]:=by
 rw[show mN L s k=_ from (F7 L s k (by omega)).symm]
 refine ae ab false Tryz.func153 rfl (by kernel_rfl) ?_
 simp only[Tryz.f153,tt,seval]
 refine cS (fN L hL hT s 0 (by omega) ha) ?_ ?_<;>simp only[tt,seval,PB,Tok.row]
 have hs:=ug hL hT s 0
 generalize oV L s 0=t at *
 by_cases hk:t.kind=k
 ·simp only[tt,seval,ap hk]
  refine cZ (cL t hs) ?_ ?_<;>simp only[tt,seval,Tok.row]
  refine⟨_,[PB L s],⟨rfl,rfl⟩,am ?_⟩
  simp only[tt,seval,PB]
 ·simp only[tt,seval,ao hk]
  refine⟨_,[PB L s],⟨rfl,rfl⟩,am ?_⟩
  simp only[tt,seval,PB]
theorem aM (L:List Tok) (hL:L.length<=1048576) (hT:∀t∈L,t.text.size<=1048576) (s:PS) (c:Bool) (hc:c=true->s.b=false/\s.a<L.length):Cl Tryz.prog 89 [.c (.p 9000 0),vb c] [PB L s] fun r os=>r = .tu []/\os=[PB L (must c s)]:=by
 obtain⟨a,b⟩:=s
 cases c with
 |true=>
  obtain⟨rfl,ha⟩:=hc rfl
  have ha:a<L.length:=ha
  refine ae ab false Tryz.func89 rfl (by kernel_rfl) ?_
  simp only[Tryz.f89,tt,seval]
  simp only[tt,seval,PB]
  rw[ax (n:=(a:Int)+1) (by omega) (by omega)]
  refine⟨_,[PB L ⟨a+1,false⟩],⟨rfl,rfl⟩,am ?_⟩
  simp only[tt,seval,PB]
  rfl
 |false=>
  refine ae ab false Tryz.func89 rfl (by kernel_rfl) ?_
  simp only[Tryz.f89,tt,seval]
  simp only[tt,seval,PB]
  refine⟨_,[PB L ⟨a,true⟩],⟨rfl,rfl⟩,am ?_⟩
  simp only[tt,seval,PB]
theorem aZ (L:List Tok) (hL:L.length<=1048576) (hT:∀t∈L,t.text.size<=1048576) (s:PS) (k:Nat) (h1:1<=k) (h2:k<=28) (ha:s.a<=L.length):Cl Tryz.prog 86 [.c (.p 9000 0),vi k] [PB L s] fun r os=>r=vb (au L s k)/\os=[PB L (tkIf (au L s k) s)]:=by
 refine ae ab false Tryz.func86 rfl (by kernel_rfl) ?_
 simp only[Tryz.f86,tt,seval]
 refine cS (cO L hL hT s k h1 h2 ha) ?_ ?_<;>simp only[tt,seval,PB]
 cases hk:au L s k with
 |true=>
  simp only[tt,seval]
  refine cS (aM L hL hT s true (fun _=>aq hk)) ?_ ?_<;>simp only[tt,seval,PB]
  refine⟨_,[PB L (adv s)],⟨rfl,rfl⟩,am ?_⟩
  simp only[tt,seval,PB,must]
 |false=>
  simp only[tt,seval]
  refine⟨_,[PB L s],⟨rfl,rfl⟩,am ?_⟩
  simp only[tt,seval,PB]
theorem cM (L:List Tok) (hL:L.length<=1048576) (hT:∀t∈L,t.text.size<=1048576) (s:PS) (k:Nat) (h1:1<=k) (ha:s.a<=L.length):Cl Tryz.prog 100 [.c (.p 9000 0),vi k] [PB L s] fun r os=>r=vs (mText L k s).1/\os=[PB L (mText L k s).2]:=by
 refine ae ab false Tryz.func100 rfl (by kernel_rfl) ?_
 simp only[Tryz.f100,tt,seval]
 refine cS (fN L hL hT s 0 (by omega) ha) ?_ ?_<;>simp only[tt,seval,PB,Tok.row]
 refine cS (iX L hL hT s k h1 ha) ?_ ?_<;>simp only[tt,seval,PB]
 refine cS (aM L hL hT s (mN L s k) (fun h=>gu h)) ?_ ?_<;>simp only[tt,seval,PB]
 cases hk:mN L s k with
 |true=>
  obtain⟨hb,_⟩:=gu hk
  simp only[tt,seval,must,adv,hb]
  refine⟨vs (oV L s 0).text,[PB L (adv s)],⟨?_,?_⟩,am ?_⟩
  ·rw[mText,if_pos hk,x6]
  ·rw[mText,if_pos hk];rfl
  ·simp only[tt,seval,PB,adv,hb]
 |false=>
  simp only[tt,seval,must,fl]
  refine⟨vs ⟨#[]⟩,[PB L (fl s)],⟨?_,?_⟩,am ?_⟩
  ·rw[mText,if_neg (by rw[hk];simp)]
  ·rw[mText,if_neg (by rw[hk];simp)];rfl
  ·simp only[tt,seval,PB,fl]
theorem gy (s:PS):tkIf true s=adv s:=rfl
theorem fY (s:PS):tkIf false s=s:=rfl
theorem sF (s:PS):must true s=adv s:=rfl
theorem F8 (s:PS):must false s=fl s:=rfl
def mj (L:List Tok) (fn:FuncId) (args:List S) (m:PM Expr):Prop:=∀s e s',m s=some (e,s')->s.a<=L.length->Cl Tryz.prog fn (.c (.p 9000 0)::args) [PB L s] fun r os=>r = .ag (av e.row)/\os=[PB L s']
def zS (L:List Tok) (fn:FuncId) (m:PM Query):Prop:=∀s e s',m s=some (e,s')->s.a<=L.length->Cl Tryz.prog fn [.c (.p 9000 0)] [PB L s] fun r os=>r = .ag (av e.row)/\os=[PB L s']
theorem jy {L:List Tok} (hL:L.length<=1048576) (hT:∀t∈L,t.text.size<=1048576) (s:PS):(bI L s).size<=1048576:=by
 rw[<-x6];exact ug hL hT s 0
theorem aR {L:List Tok} {s:PS} (h:s.b=false/\s.a<L.length):(adv s).a<=L.length:=h.2
theorem jz {L:List Tok} {s:PS} {k:Int} (h:mN L s k=true):mText L k s=(bI L s,adv s):=by rw[mText,if_pos h]
theorem pR {L:List Tok} {s:PS} {k:Nat} {c:UInt8} (h:au L s k=true):b3 L s c=false:=by
 unfold au ki at h
 unfold b3 ki
 cases ht:iD L s 0 with
 |none=>rfl
 |some t=>
  rw[ht] at h
  simp only[Bool.and_eq_true,decide_eq_true_eq] at h
  simp [h.1]
theorem dx:ByteArray.empty=⟨#[]⟩:=rfl
theorem rW:type_of% (aa @dx (aa @PB.eq_1 (aa @dr.eq_1 (aa @md.eq_1 (aa @cB.eq_1 (aa @ua.eq_1 (aa @f5.eq_1 (aa @zExpr.eq_1 (aa @bD.eq_1 (aa @z0.eq_1 (aa @ah (aa @ar (aa @List.flatMap_nil.{0,0} (aa @List.flatMap_cons.{0,0} (aa @List.append_nil.{0} (aa @List.length_nil.{0} @List.length_cons.{0})))))))))))))))):=aa @dx (aa @PB.eq_1 (aa @dr.eq_1 (aa @md.eq_1 (aa @cB.eq_1 (aa @ua.eq_1 (aa @f5.eq_1 (aa @zExpr.eq_1 (aa @bD.eq_1 (aa @z0.eq_1 (aa @ah (aa @ar (aa @List.flatMap_nil.{0,0} (aa @List.flatMap_cons.{0,0} (aa @List.append_nil.{0} (aa @List.length_nil.{0} @List.length_cons.{0})))))))))))))))
theorem uh (s:ByteArray):Cl Tryz.prog 154 [vs s] [] fun r _=>r = .ag (av (Val.mk 2 0 s).row):=by
 refine ae ab false Tryz.func154 rfl (by kernel_rfl) ?_
 simp only[Tryz.f154,tt,seval]
 refine⟨.ag (av (Val.mk 2 0 s).row),[],rfl,ai rfl⟩
theorem ui:Cl Tryz.prog 155 [vb true] [] fun r _=>r = .ag (av (Val.mk 3 1 z0).row):=by
 refine ae ab false Tryz.func155 rfl (by kernel_rfl) ?_
 simp only[Tryz.f155,tt,seval]
 refine⟨.ag (av (Val.mk 3 1 z0).row),[],rfl,am ?_⟩
 simp only[tt,seval,Val.row,z0,dx]
theorem uj:Cl Tryz.prog 155 [vb false] [] fun r _=>r = .ag (av (Val.mk 3 0 z0).row):=by
 refine ae ab false Tryz.func155 rfl (by kernel_rfl) ?_
 simp only[Tryz.f155,tt,seval]
 refine⟨.ag (av (Val.mk 3 0 z0).row),[],rfl,am ?_⟩
 simp only[tt,seval,Val.row,z0,dx]
theorem bj (L:List Tok) (hL:L.length<=1048576) (hT:∀t∈L,t.text.size<=1048576) (s:PS) (c:UInt8) (ha:s.a<=L.length):Cl Tryz.prog 88 [.c (.p 9000 0),vs ⟨#[c]⟩] [PB L s] fun r os=>r=vb (b3 L s c)/\os=[PB L s]:=ym L hL hT s ⟨#[c]⟩ ha
theorem l7 (L:List Tok) (hL:L.length<=1048576) (hT:∀t∈L,t.text.size<=1048576) (s:PS) (ha:s.a<=L.length):Cl Tryz.prog 162 [.c (.p 9000 0)] [PB L s] fun r os=>r=vs (asM L s).1/\os=[PB L (asM L s).2]:=by
 refine ae ab false Tryz.func162 rfl (by kernel_rfl) ?_
 simp only[Tryz.f162,tt,seval]
 refine cS (aZ L hL hT s 12 (by omega) (by omega) ha) ?_ ?_<;>simp only[tt,seval,PB]
 cases c:au L s 12 with
 |true=>
  have hm:asM L s=mText L 2 (adv s):=by rw[asM,if_pos c]
  rw[hm]
  simp only[tt,seval,gy]
  refine cS (cM L hL hT (adv s) 2 (by omega) (aR (aq c))) ?_ ?_<;>simp only[tt,seval,PB]
  refine⟨_,[PB L (mText L 2 (adv s)).2],⟨rfl,rfl⟩,am ?_⟩
  simp only[tt,seval,PB]
 |false=>
  have hm:asM L s=(z0,s):=by rw[asM,if_neg (by rw[c];simp)]
  rw[hm]
  simp only[tt,seval,fY]
  refine⟨vs z0,[PB L s],⟨rfl,rfl⟩,am ?_⟩
  simp only[tt,seval,PB,z0]
set_option maxHeartbeats 1000000 in
theorem sG (L:List Tok) (hL:L.length<=1048576) (hT:∀t∈L,t.text.size<=1048576) {f:Nat->PM Expr} {q:PM Query} (ok1:OkM (L:=L) (f 1)) (okq:OkM (L:=L) q) (hf:mj L 39 [vi 1] (f 1)) (hq:zS L 53 q):mj L 90 [] (fD L f q):=by
 intro s e s' h ha
 have hts:=jy hL hT s
 unfold fD at h
 simp only at h
 refine ae ab false Tryz.func90 rfl (by kernel_rfl) ?_
 simp only[Tryz.f90,tt,seval]
 refine cS (iX L hL hT s 3 (by omega) ha) ?_ ?_<;>simp only[tt,seval,PB]
 cases c3:mN L s 3 with
 |true=>
  rw[if_pos c3] at h
  injection h with h;injection h with h1 h2;subst h1 h2
  simp only[tt,seval]
  refine cS (cM L hL hT s 3 (by omega) ha) ?_ ?_<;>simp only[tt,seval,PB]
  rw[jz c3]
  refine cZ (mL (bI L s) hts) ?_ ?_<;>simp only[tt,seval,lx]
  refine⟨.ag (av (dr ⟨1,ic (bI L s),z0⟩).row),[PB L (adv s)],⟨rfl,rfl⟩,am ?_⟩
  simp only[tt,seval,dx,PB,dr,z0,ah]
 |false=>
 rw[if_neg (by rw[c3];simp)] at h
 simp only[tt,seval]
 refine cS (iX L hL hT s 4 (by omega) ha) ?_ ?_<;>simp only[tt,seval,PB]
 cases c4:mN L s 4 with
 |true=>
  rw[if_pos c4] at h
  injection h with h;injection h with h1 h2;subst h1 h2
  simp only[tt,seval]
  refine cS (cM L hL hT s 4 (by omega) ha) ?_ ?_<;>simp only[tt,seval,PB]
  rw[jz c4]
  refine cZ (uh (bI L s)) ?_ ?_<;>simp only[tt,seval,Val.row]
  refine⟨.ag (av (dr ⟨2,0,bI L s⟩).row),[PB L (adv s)],⟨rfl,rfl⟩,am ?_⟩
  simp only[tt,seval,dx,PB,dr,z0,ah]
 |false=>
 rw[if_neg (by rw[c4];simp)] at h
 simp only[tt,seval]
 refine cS (aZ L hL hT s 20 (by omega) (by omega) ha) ?_ ?_<;>simp only[tt,seval,PB]
 cases c20:au L s 20 with
 |true=>
  rw[if_pos c20] at h
  injection h with h;injection h with h1 h2;subst h1 h2
  simp only[tt,seval,gy]
  refine⟨.ag (av (dr bD).row),[PB L (adv s)],⟨rfl,rfl⟩,am ?_⟩
  simp only[tt,seval,dx,PB,dr,bD,z0,ah]
 |false=>
 rw[if_neg (by rw[c20];simp)] at h
 simp only[tt,seval,fY]
 refine cS (aZ L hL hT s 21 (by omega) (by omega) ha) ?_ ?_<;>simp only[tt,seval,PB]
 cases c21:au L s 21 with
 |true=>
  rw[if_pos c21] at h
  injection h with h;injection h with h1 h2;subst h1 h2
  simp only[tt,seval,gy]
  refine cZ (ui) ?_ ?_<;>simp only[tt,seval,Val.row]
  refine⟨.ag (av (dr ⟨3,1,z0⟩).row),[PB L (adv s)],⟨rfl,rfl⟩,am ?_⟩
  simp only[tt,seval,dx,PB,dr,z0,ah]
 |false=>
 rw[if_neg (by rw[c21];simp)] at h
 simp only[tt,seval,fY]
 refine cS (aZ L hL hT s 22 (by omega) (by omega) ha) ?_ ?_<;>simp only[tt,seval,PB]
 cases c22:au L s 22 with
 |true=>
  rw[if_pos c22] at h
  injection h with h;injection h with h1 h2;subst h1 h2
  simp only[tt,seval,gy]
  refine cZ (uj) ?_ ?_<;>simp only[tt,seval,Val.row]
  refine⟨.ag (av (dr ⟨3,0,z0⟩).row),[PB L (adv s)],⟨rfl,rfl⟩,am ?_⟩
  simp only[tt,seval,dx,PB,dr,z0,ah]
 |false=>
 rw[if_neg (by rw[c22];simp)] at h
 simp only[tt,seval,fY]
 refine cS (iX L hL hT s 2 (by omega) ha) ?_ ?_<;>simp only[tt,seval,PB]
 cases c2:mN L s 2 with
 |true=>
  rw[if_pos c2] at h
  simp only[tt,seval]
  refine cS (cM L hL hT s 2 (by omega) ha) ?_ ?_<;>simp only[tt,seval,PB]
  rw[jz c2]
  simp only[seval]
  have ha1:=aR (L:=L) (gu c2)
  refine cS (bj L hL hT (adv s) 46 ha1) ?_ ?_<;>simp only[tt,seval,PB]
  cases cd:b3 L (adv s) 46 with
  |true=>
   rw[if_pos cd] at h
   injection h with h;injection h with h1 h2;subst h1 h2
   simp only[tt,seval]
   refine cS (aM L hL hT (adv s) true (fun _=>aD cd)) ?_ ?_<;>simp only[tt,seval,PB,sF]
   refine cS (cM L hL hT (adv (adv s)) 2 (by omega) (aR (aD cd))) ?_ ?_<;>simp only[tt,seval,PB]
   refine⟨.ag (av (md (bI L s) (mText L 2 (adv (adv s))).1).row),[PB L ((mText L 2 (adv (adv s))).2)],⟨rfl,rfl⟩,am ?_⟩
   simp only[tt,seval,dx,PB,md,bD,ah]
  |false=>
   rw[if_neg (by rw[cd];simp)] at h
   injection h with h;injection h with h1 h2;subst h1 h2
   simp only[tt,seval]
   refine⟨.ag (av (md z0 (bI L s)).row),[PB L (adv s)],⟨rfl,rfl⟩,am ?_⟩
   simp only[tt,seval,dx,PB,md,bD,z0,ah]
 |false=>
 simp only[tt,seval]
 refine cS (aZ L hL hT s 19 (by omega) (by omega) ha) ?_ ?_<;>simp only[tt,seval,PB]
 cases c19:au L s 19 with
 |true=>
  rw[if_neg (by rw[c2];simp),if_neg (by rw[pR c19];simp),if_pos c19] at h
  simp only[tt,seval,gy]
  have ha1:=aR (L:=L) (aq c19)
  have o1:Ok L (adv s) (must (b3 L (adv s) 40) (adv s)):=Ok.must fun h=>aD h
  refine cS (bj L hL hT (adv s) 40 ha1) ?_ ?_<;>simp only[tt,seval,PB]
  refine cS (aM L hL hT (adv s) (b3 L (adv s) 40) (fun h=>aD h)) ?_ ?_<;>simp only[tt,seval,PB]
  split at h
  ·cases h
  ·rename_i x t hx
   injection h with h;injection h with h1 h2;subst h1 h2
   have o2:=okq _ _ _ hx
   obtain⟨d,its,frs,whs,ods,lim⟩:=x
   have c:=hq _ _ _ hx (o1.2.1 ha1)
   rw[ar] at c
   refine cS (c) ?_ ?_<;>simp only[tt,seval,PB]
   refine cS (bj L hL hT t 41 (o2.2.1 (o1.2.1 ha1))) ?_ ?_<;>simp only[tt,seval,PB]
   refine cS (aM L hL hT t (b3 L t 41) (fun h=>aD h)) ?_ ?_<;>simp only[tt,seval,PB]
   refine⟨.ag (av (cB 9 false [] [.mk d its frs whs ods lim]).row),[PB L (must (b3 L t 41) t)],⟨rfl,rfl⟩,am ?_⟩
   simp only[tt,seval,dx,PB,cB,bD,z0,ah,ar]
 |false=>
 simp only[tt,seval,fY]
 rw[if_neg (by rw[c2];simp)] at h
 refine cS (bj L hL hT s 40 ha) ?_ ?_<;>simp only[tt,seval,PB]
 refine cS (aM L hL hT s (b3 L s 40) (fun h=>aD h)) ?_ ?_<;>simp only[tt,seval,PB]
 cases cl:b3 L s 40 with
 |true=>
  obtain⟨hb,hlt⟩:=aD cl
  rw[if_pos cl] at h
  have ha1:=aR (L:=L) (aD cl)
  have hb1:(adv s).b=false:=hb
  split at h
  ·cases h
  ·rename_i x t hx
   injection h with h;injection h with h1 h2;subst h1 h2
   have o2:=ok1 _ _ _ hx
   obtain⟨k0,o0,n0,v0,q0,m0,ks0,ss0⟩:=x
   have c:=hf _ _ _ hx ha1
   rw[ah] at c
   simp only[tt,seval,sF,hb1]
   have e0:PB L (adv s)=[.sl L.length (L.flatMap Tok.row) none,.v (.int .i64 (adv s).a),.v (.bool false)]:=by rw[PB,hb1]
   rw[e0] at c
   refine cS (c) ?_ ?_<;>simp only[tt,seval,PB]
   refine cS (bj L hL hT t 41 (o2.2.1 ha1)) ?_ ?_<;>simp only[tt,seval,PB]
   refine cS (aM L hL hT t (b3 L t 41) (fun h=>aD h)) ?_ ?_<;>simp only[tt,seval,PB]
   refine⟨.ag (av (Expr.mk k0 o0 n0 v0 q0 m0 ks0 ss0).row),[PB L (must (b3 L t 41) t)],⟨rfl,rfl⟩,am ?_⟩
   simp only[tt,seval,dx,PB,ah]
 |false=>
  rw[if_neg (by rw[cl];simp),if_neg (by rw[c19];simp)] at h
  injection h with h;injection h with h1 h2;subst h1 h2
  simp only[tt,seval,F8,fl]
  refine⟨.ag (av (zExpr).row),[PB L (fl s)],⟨rfl,rfl⟩,am ?_⟩
  simp only[tt,seval,dx,PB,zExpr,bD,z0,ah,fl]
def vS (Lo:Ob):Nat:=match Go.Dv.look Lo 9000 with|some (.str [_,.v (.int _ a),_])=>a.toNat|_=>0
theorem Cf (l:List Expr) (k0 o0:Int) (n0:Bool) (v0:Val) (q0 m0:ByteArray) (ks0:List Expr) (ss0:List Query):l.flatMap Expr.row++[int k0,int o0,bool n0,int v0.kind,int v0.num,str v0.text,str q0,str m0,.sl ks0.length (ks0.flatMap Expr.row),.sl ss0.length (ss0.flatMap Query.row)]=(l++[Expr.mk k0 o0 n0 v0 q0 m0 ks0 ss0]).flatMap Expr.row:=by
 rw[List.flatMap_append,List.flatMap_cons,List.flatMap_nil,List.append_nil,ah]
theorem zT (X:List D) (l:List Expr) (k0 o0:Int) (n0:Bool) (v0:Val) (q0 m0:ByteArray) (ks0:List Expr) (ss0:List Query):X++l.flatMap Expr.row++[int k0,int o0,bool n0,int v0.kind,int v0.num,str v0.text,str q0,str m0,.sl ks0.length (ks0.flatMap Expr.row),.sl ss0.length (ss0.flatMap Query.row)]=X++(l++[Expr.mk k0 o0 n0 v0 q0 m0 ks0 ss0]).flatMap Expr.row:=by
 rw[aJ,Cf]
theorem DE (k0 o0:Int) (n0:Bool) (v0:Val) (q0 m0:ByteArray) (ks0:List Expr) (ss0:List Query) (k1 o1:Int) (n1:Bool) (v1:Val) (q1 m1:ByteArray) (ks1:List Expr) (ss1:List Query):([int k0,int o0,bool n0,int v0.kind,int v0.num,str v0.text,str q0,str m0,.sl ks0.length (ks0.flatMap Expr.row),.sl ss0.length (ss0.flatMap Query.row),int k1,int o1,bool n1,int v1.kind,int v1.num,str v1.text,str q1,str m1,.sl ks1.length (ks1.flatMap Expr.row),.sl ss1.length (ss1.flatMap Query.row)]:List D)=([Expr.mk k0 o0 n0 v0 q0 m0 ks0 ss0,Expr.mk k1 o1 n1 v1 q1 m1 ks1 ss1]).flatMap Expr.row:=by
 rw[List.flatMap_cons,List.flatMap_cons,List.flatMap_nil,List.append_nil,ah,ah];rfl
set_option maxHeartbeats 1000000 in
theorem pS (L:List Tok) (hL:L.length<=1048576) (hT:∀t∈L,t.text.size<=1048576) {f:Nat->PM Expr} {q:PM Query} (ok1:OkM (L:=L) (f 1)) (okq:OkM (L:=L) q) (hf:mj L 39 [vi 1] (f 1)) (hq:zS L 53 q) (e:Expr) (not:Bool):mj L 151 [.ag (av e.row),vb not] (vE L f q e not):=by
 intro s x s' h ha
 unfold vE at h
 simp only at h
 have o1:Ok L s (must (b3 L s 40) s):=Ok.must fun h=>aD h
 have ha1:=o1.2.1 ha
 obtain⟨k1,p1,n1,v1,q1,m1,ks1,ss1⟩:=e
 rw[ah]
 refine ae ab false Tryz.func151 rfl (by kernel_rfl) ?_
 simp only[Tryz.f151,tt,seval]
 refine cS (bj L hL hT s 40 ha) ?_ ?_<;>simp only[tt,seval,PB]
 refine cS (aM L hL hT s (b3 L s 40) (fun h=>aD h)) ?_ ?_<;>simp only[tt,seval,PB]
 generalize must (b3 L s 40) s=u at *
 refine cS (cO L hL hT u 1 (by omega) (by omega) ha1) ?_ ?_<;>simp only[tt,seval,PB]
 cases c1:au L u 1 with
 |true=>
  rw[if_pos c1] at h
  split at h
  ·cases h
  ·rename_i y t hy
   injection h with h;injection h with h1 h2;subst h1 h2
   have o2:=okq _ _ _ hy
   obtain⟨d,its,frs,whs,ods,lim⟩:=y
   have c:=hq _ _ _ hy ha1
   rw[ar] at c
   simp only[tt,seval]
   refine cS (c) ?_ ?_<;>simp only[tt,seval,PB]
   refine cS (bj L hL hT t 41 (o2.2.1 ha1)) ?_ ?_<;>simp only[tt,seval,PB]
   refine cS (aM L hL hT t (b3 L t 41) (fun h=>aD h)) ?_ ?_<;>simp only[tt,seval,PB]
   refine⟨.ag (av (cB 8 not [Expr.mk k1 p1 n1 v1 q1 m1 ks1 ss1] [.mk d its frs whs ods lim]).row),[PB L (must (b3 L t 41) t)],⟨rfl,rfl⟩,am ?_⟩
   simp only[tt,seval,dx,PB,cB,bD,z0,ah,ar]
 |false=>
  rw[if_neg (by rw[c1];simp)] at h
  unfold ju at h
  split at h
  ·cases h
  rename_i l t hl
  split at hl
  ·cases hl
  rename_i y u1 hy
  injection h with h;injection h with h1 h2;subst h1 h2
  simp only[tt,seval]
  have o2:=ok1 _ _ _ hy
  have ha2:=o2.2.1 ha1
  obtain⟨k0,o0,n0,v0,q0,m0,ks0,ss0⟩:=y
  have c:=hf _ _ _ hy ha1
  rw[ah] at c
  apply eC 8 0 2 6
  case h1=>
   refine dDrawn.intro [29] (.take 1 (.br 0 (.br 2 (.br 3 (.take 4 .done) .nobr) .nobr) (.br 2 (.take 0 (.br 3 (.take 4 .done) .nobr)) .nobr))) (by kernel_rfl) ?_
   simp only[tt,seval]
   all_goals repeat' first|refine cJ ?_ ?_|refine b7 ?_ ?_
   all_goals
    refine cS (c) ?_ ?_
    ·simp only[tt,seval,PB]
     decide
    simp only[tt,seval,PB]
   all_goals exact⟨rfl,rfl,rfl,rfl,rfl,rfl⟩
  case h2=>
   intro f' hj0 hj1 hj2 hj3
   simp only[tt,seval]
   rw[DE k1 p1 n1 v1 q1 m1 ks1 ss1 k0 o0 n0 v0 q0 m0 ks0 ss0]
   refine dLoop.gh [.ren 30 39] ⟨by decide,by decide,?_⟩
   refine dLoop0.intro (fun f' Lo p=>∃(m:List Expr) (v:PS) (n:Nat),f' 8 = .c (.s 39 ((Expr.mk k1 p1 n1 v1 q1 m1 ks1 ss1)::m).length)/\dy L (f 1) n m v=some (l,t)/\v.a<=L.length/\m.length<=v.a+1/\Lo=[(9000,.str (PB L v)),(39,.arr 29 ((Expr.mk k1 p1 n1 v1 q1 m1 ks1 ss1)::m).length (((Expr.mk k1 p1 n1 v1 q1 m1 ks1 ss1)::m).flatMap Expr.row) none),(6,.str [.v (.int .i64 0),.v (.int .i64 0),.v (.bool false),.v (.int .i64 0),.v (.int .i64 0),.v (.string ByteArray.empty),.v (.string ByteArray.empty),.v (.string ByteArray.empty),.v (.slice none 0 0),.v (.slice none 0 0)])]/\p=none) (fun _ Lo _=>L.length-vS Lo) [(9000,.str (PB L u1)),(39,.arr 29 ([(Expr.mk k1 p1 n1 v1 q1 m1 ks1 ss1),(Expr.mk k0 o0 n0 v0 q0 m0 ks0 ss0)]).length (([(Expr.mk k1 p1 n1 v1 q1 m1 ks1 ss1),(Expr.mk k0 o0 n0 v0 q0 m0 ks0 ss0)]).flatMap Expr.row) none),(6,.str [.v (.int .i64 0),.v (.int .i64 0),.v (.bool false),.v (.int .i64 0),.v (.int .i64 0),.v (.string ByteArray.empty),.v (.string ByteArray.empty),.v (.string ByteArray.empty),.v (.slice none 0 0),.v (.slice none 0 0)])] none ⟨ac rfl (ac rfl (ac rfl (ak _))),al _,?_⟩ ?_
   ·simp only[tt,seval,hj0]
    exact⟨[(Expr.mk k0 o0 n0 v0 q0 m0 ks0 ss0)],u1,L.length+1,rfl,hl,ha2,by simp,rfl⟩
   ·rintro g' Lo p ⟨m,v,n,h8,hm,hv,hml,rfl,rfl⟩
    simp only[tt,seval] at h8
    simp only[tt,seval,hj1]
    refine cS (bj L hL hT v 44 hv) ?_ ?_<;>simp only[tt,seval,PB,hj1]
    cases n with
    |zero=>cases hm
    |succ n=>
    rw[dy] at hm
    cases c44:b3 L v 44 with
    |true=>
     rw[if_pos c44] at hm
     split at hm
     ·cases hm
     rename_i z w hz
     obtain⟨hb,hlt⟩:=aD c44
     have hav:=aR (L:=L) (aD c44)
     have o3:=ok1 _ _ _ hz
     have o3a:v.a+1<=w.a:=o3.1
     have hw:=o3.2.1 hav
     obtain⟨k2,o2',n2,v2,q2,m2,ks2,ss2⟩:=z
     have c2:=hf _ _ _ hz hav
     rw[ah] at c2
     simp only[tt,seval]
     refine cS (aM L hL hT v true (fun _=>aD c44)) ?_ ?_<;>simp only[tt,seval,PB,sF,h8,hj1]
     refine cS (c2) ?_ ?_<;>simp only[tt,seval,PB]
     refine⟨by kernel_rfl,⟨by simp only[maxLen];omega,by omega⟩,?_⟩
     rw[zT,show m.length+1+1=(m++[Expr.mk k2 o2' n2 v2 q2 m2 ks2 ss2]).length+1 by simp]
     exact⟨_,none,ac rfl (ac rfl (ac rfl (ak _))),al _,⟨m++[Expr.mk k2 o2' n2 v2 q2 m2 ks2 ss2],w,n,rfl,hm,hw,by simp;omega,rfl,rfl⟩,by show L.length-((w.a:Int)).toNat<L.length-((v.a:Int)).toNat;omega⟩
    |false=>
     rw[if_neg (by rw[c44];simp)] at hm
     injection hm with hm;injection hm with e1 e2;subst e1 e2
     simp only[tt,seval]
     refine cS (bj L hL hT v 41 hv) ?_ ?_<;>simp only[tt,seval,PB]
     refine cS (aM L hL hT v (b3 L v 41) (fun h=>aD h)) ?_ ?_<;>simp only[tt,seval,PB,h8,hj2,hj3]
     refine⟨.ag (av (cB 7 not ((Expr.mk k1 p1 n1 v1 q1 m1 ks1 ss1)::m) []).row),[PB L (must (b3 L v 41) v)],⟨rfl,rfl⟩,am ?_⟩
     simp only[tt,seval,dx,PB,cB,bD,z0,ah]
theorem Cg:∀w∈[1,2,4,5,6,7],lA w=(List.range' 1 14).filter (fun k:Nat=>decide (bl (k:Int)=(w:Int))):=by decide +kernel
theorem Ch (op:Int) (n:Bool) (v:Val) (q m:ByteArray) (ks:List Expr) (ss:List Query):sE (Expr.mk 4 op n v q m ks ss)=bl op:=by simp [sE,Expr.kind,Expr.op,lv]
theorem yn (op:Nat) (h:op<=14):(dj (op:Int)).kind=if op=1∨op=2 then 1 else 5:=by
 unfold dj
 simp only
 by_cases h1:op=1∨op=2
 ·rw[if_pos h1,if_pos (by omega)]
 ·rw[if_neg h1,if_neg (by omega)]
theorem Ev (L:List Tok) (s:PS) (op:Nat) (h:op<=14):(decide ((oV L s 0).kind=(dj (op:Int)).kind)&&decide ((oV L s 0).text=(dj (op:Int)).text))=lN L s op:=by
 rw[yn op h,lN,zR L s 0 _ _ (by split<;>decide)]
 rfl
theorem Em {n:Nat} (h:n<=1048576):IntKind.i64.wrap ((n:Int)+1)=((n+1:Nat):Int):=ax (n:=(n:Int)+1) (by omega) (by omega)
theorem DF {L:List Tok} {s:PS} {w op:Nat} (h:op<=14) (hb:¬bl (op:Int)=(w:Int)):jt L s ((List.range' op (15-op)).filter (fun k:Nat=>decide (bl (k:Int)=(w:Int))))=jt L s ((List.range' (op+1) (15-(op+1))).filter (fun k:Nat=>decide (bl (k:Int)=(w:Int)))):=by
 rw[show 15-op=15-(op+1)+1 by omega,List.range'_succ,List.filter_cons,if_neg (by simpa using hb)]
theorem Ci {L:List Tok} {s:PS} {w op:Nat} (h:op<=14) (hb:bl (op:Int)=(w:Int)):jt L s ((List.range' op (15-op)).filter (fun k:Nat=>decide (bl (k:Int)=(w:Int))))=if lN L s op=true then op else jt L s ((List.range' (op+1) (15-(op+1))).filter (fun k:Nat=>decide (bl (k:Int)=(w:Int)))):=by
 rw[show 15-op=15-(op+1)+1 by omega,List.range'_succ,List.filter_cons,if_pos (by simpa using hb),jt]
set_option maxHeartbeats 1000000 in
theorem sH (L:List Tok) (hL:L.length<=1048576) (hT:∀t∈L,t.text.size<=1048576) (s:PS) (w:Nat) (hw:w∈[1,2,4,5,6,7]) (ha:s.a<=L.length):Cl Tryz.prog 91 [.c (.p 9000 0),vi w] [PB L s] fun r os=>r=vi (cG L s w)/\os=[PB L s]:=by
 have ho:cG L s w=jt L s ((List.range' 1 (15-1)).filter (fun k:Nat=>decide (bl (k:Int)=(w:Int)))):=by rw[cG,Cg w hw]
 refine ae ab false Tryz.func91 rfl (by kernel_rfl) ?_
 simp only[Tryz.f91,tt,seval]
 refine dLoop.intro (fun f' Lo p=>∃op:Nat,f' 5=vi op/\1<=op/\op<=15/\cG L s w=jt L s ((List.range' op (15-op)).filter (fun k:Nat=>decide (bl (k:Int)=(w:Int))))/\Lo=[(9000,.str (PB L s))]/\p=none) (fun f' _ _=>(15-aU (f' 5)).toNat) [(9000,.str (PB L s))] none ⟨ac rfl (ak _),al _,?_⟩ ?_
 ·simp only[tt,seval]
  exact⟨1,rfl,by omega,by omega,ho⟩
 ·rintro g' Lo p ⟨op,h5,h1,h2,hop,rfl,rfl⟩
  simp only[tt,seval] at h5
  by_cases hle:op<=14
  ·have e0:((op:Int)<=14)=True:=eq_true (by omega)
   simp only[tt,seval,h5,e0]
   refine cZ (l6 (Expr.mk 4 op false bD z0 z0 [] [])) ?_ ?_<;>simp only[tt,seval,Ch,ah,bD,z0,dx,h5]
   by_cases hb:bl (op:Int)=(w:Int)
   ·have hop:=hop.trans (Ci hle hb)
    simp only[tt,seval,hb]
    refine cZ (tl op) ?_ ?_<;>simp only[tt,seval,Tok.row]
    refine cS (fN L hL hT s 0 (by omega) ha) ?_ ?_<;>simp only[tt,seval,PB,Tok.row]
    have hh:=Ev L s op hle
    refine aa (fun hk=>?_) (fun hk=>?_)
    ·rw[hk,Bool.true_and] at hh
     simp only[tt,seval,hk,h5]
     by_cases hx:(oV L s 0).text=(dj (op:Int)).text
     ·rw[ap hx] at hh
      simp only[tt,seval,hx]
      refine⟨vi op,[PB L s],⟨by rw[hop,if_pos hh.symm],rfl⟩,am ?_⟩
      simp only[tt,seval,PB]
     ·rw[ao hx] at hh
      rw[if_neg (by rw[<-hh];simp)] at hop
      simp only[tt,seval,hx]
      refine⟨[(9000,.str (PB L s))],none,ac rfl (ak _),al _,⟨op+1,by rw[Em (n:=op) (by omega)],by omega,by omega,hop,rfl,rfl⟩,?_⟩
      rw[Em (n:=op) (by omega)]
      show (15-((op+1:Nat):Int)).toNat<(15-(op:Int)).toNat
      omega
    ·rw[hk,Bool.false_and] at hh
     rw[if_neg (by rw[<-hh];simp)] at hop
     simp only[tt,seval,hk,h5]
     refine⟨[(9000,.str (PB L s))],none,ac rfl (ak _),al _,⟨op+1,by rw[Em (n:=op) (by omega)],by omega,by omega,hop,rfl,rfl⟩,?_⟩
     rw[Em (n:=op) (by omega)]
     show (15-((op+1:Nat):Int)).toNat<(15-(op:Int)).toNat
     omega
   ·have hop:=hop.trans (DF hle hb)
    simp only[tt,seval,hb]
    refine⟨[(9000,.str (PB L s))],none,ac rfl (ak _),al _,⟨op+1,by rw[Em (n:=op) (by omega)],by omega,by omega,hop,rfl,rfl⟩,?_⟩
    rw[Em (n:=op) (by omega)]
    show (15-((op+1:Nat):Int)).toNat<(15-(op:Int)).toNat
    omega
  ·have e0:((op:Int)<=14)=False:=eq_false (by omega)
   simp only[tt,seval,h5,e0]
   have e:cG L s w=0:=by rw[hop,show 15-op=0 by omega];rfl
   refine⟨vi 0,[PB L s],⟨by rw[e];rfl,rfl⟩,am ?_⟩
   simp only[tt,seval,PB]
set_option maxHeartbeats 2000000 in
theorem uk (L:List Tok) (hL:L.length<=1048576) (hT:∀t∈L,t.text.size<=1048576) {f:Nat->PM Expr} {q:PM Query} (ok:∀lv,OkM (L:=L) (f lv)) (okq:OkM (L:=L) q) (hf1:mj L 39 [vi 1] (f 1)) (hf5:mj L 39 [vi 5] (f 5)) (hq:zS L 53 q):mj L 87 [] (lB L f q):=by
 intro s x s' h ha
 unfold lB at h
 split at h
 ·cases h
 rename_i e s1 he
 have o1:=ok 5 _ _ _ he
 have ha1:=o1.2.1 ha
 obtain⟨k1,p1,n1,v1,q1,m1,ks1,ss1⟩:=e
 have c1:=hf5 _ _ _ he ha
 rw[ah] at c1
 refine ae ab false Tryz.func87 rfl (by kernel_rfl) ?_
 simp only[Tryz.f87,tt,seval]
 refine cS (c1) ?_ ?_<;>simp only[tt,seval,PB]
 refine cS (sH L hL hT s1 4 (by decide) ha1) ?_ ?_<;>simp only[tt,seval,PB]
 by_cases hop:cG L s1 4=0
 ·have e0:((0:Int)<((cG L s1 4:Nat):Int))=False:=eq_false (by omega)
  rw[if_pos hop] at h
  unfold cmpT at h
  simp only at h
  simp only[tt,seval,e0]
  refine cS (aZ L hL hT s1 16 (by omega) (by omega) ha1) ?_ ?_<;>simp only[tt,seval,PB]
  cases c16:au L s1 16 with
  |true=>
   rw[if_pos c16] at h
   injection h with h;injection h with h1 h2;subst h1 h2
   simp only[tt,seval,gy]
   have ha2:=aR (L:=L) (aq c16)
   refine cS (aZ L hL hT (adv s1) 15 (by omega) (by omega) ha2) ?_ ?_<;>simp only[tt,seval,PB]
   have o3:Ok L (adv s1) (tkIf (au L (adv s1) 15) (adv s1)):=Ok.tkIf fun h=>aq h
   have ha3:=o3.2.1 ha2
   generalize tkIf (au L (adv s1) 15) (adv s1)=u at *
   refine cS (cO L hL hT u 20 (by omega) (by omega) ha3) ?_ ?_<;>simp only[tt,seval,PB]
   refine cS (aM L hL hT u (au L u 20) (fun h=>aq h)) ?_ ?_<;>simp only[tt,seval,PB]
   refine⟨.ag (av (cB 5 (au L (adv s1) 15) [(Expr.mk k1 p1 n1 v1 q1 m1 ks1 ss1)] []).row),[PB L (must (au L u 20) u)],⟨rfl,rfl⟩,am ?_⟩
   simp only[tt,seval,dx,PB,cB,bD,z0,ah]
  |false=>
  rw[if_neg (by rw[c16];simp)] at h
  simp only[tt,seval,fY]
  refine cS (aZ L hL hT s1 15 (by omega) (by omega) ha1) ?_ ?_<;>simp only[tt,seval,PB]
  have o2:Ok L s1 (tkIf (au L s1 15) s1):=Ok.tkIf fun h=>aq h
  have ha2:=o2.2.1 ha1
  generalize tkIf (au L s1 15) s1=u at *
  generalize au L s1 15=n at *
  refine cS (aZ L hL hT u 18 (by omega) (by omega) ha2) ?_ ?_<;>simp only[tt,seval,PB]
  cases c18:au L u 18 with
  |true=>
   rw[if_pos c18] at h
   split at h
   ·cases h
   rename_i lo s2 hlo
   split at h
   ·cases h
   rename_i hi s3 hhi
   injection h with h;injection h with h1 h2;subst h1 h2
   simp only[tt,seval,gy]
   have ha3:=aR (L:=L) (aq c18)
   have ha4:=(ok 5 _ _ _ hlo).2.1 ha3
   obtain⟨k2,p2,n2,v2,q2,m2,ks2,ss2⟩:=lo
   have c2:=hf5 _ _ _ hlo ha3
   rw[ah] at c2
   refine cS (c2) ?_ ?_<;>simp only[tt,seval,PB]
   refine cS (cO L hL hT s2 13 (by omega) (by omega) ha4) ?_ ?_<;>simp only[tt,seval,PB]
   refine cS (aM L hL hT s2 (au L s2 13) (fun h=>aq h)) ?_ ?_<;>simp only[tt,seval,PB]
   have o5:Ok L s2 (must (au L s2 13) s2):=Ok.must fun h=>aq h
   have ha5:=o5.2.1 ha4
   generalize must (au L s2 13) s2=w at *
   obtain⟨k3,p3,n3,v3,q3,m3,ks3,ss3⟩:=hi
   have c3:=hf5 _ _ _ hhi ha5
   rw[ah] at c3
   apply bo 2
   case h1=>
    refine dDrawn.intro [48] (.take 0 (.take 3 (.br 1 (.br 2 (.br 4 (.br 5 (.take 6 (.br 7 .done .nobr)) .nobr) .nobr) (.br 4 (.take 2 (.br 5 (.take 6 (.br 7 .done .nobr)) .nobr)) .nobr)) (.br 2 (.br 1 (.br 4 (.br 5 (.take 6 (.br 7 .done .nobr)) .nobr) .nobr) (.br 4 (.take 1 (.br 5 (.take 6 (.br 7 .done .nobr)) .nobr)) .nobr)) (.br 4 (.take 1 (.take 2 (.br 5 (.take 6 (.br 7 .done .nobr)) .nobr))) .nobr))))) (by kernel_rfl) ?_
    simp only[tt,seval]
    all_goals repeat' first|refine cJ ?_ ?_|refine b7 ?_ ?_
    all_goals
     refine cS (c3) ?_ ?_
     ·simp only[tt,seval,PB]
      decide
     simp only[tt,seval,PB]
    all_goals exact⟨rfl,rfl,rfl⟩
   case h2=>
    intro f' hj0
    simp only[tt,seval,hj0]
    refine⟨.ag (av (cB 6 n [(Expr.mk k1 p1 n1 v1 q1 m1 ks1 ss1),(Expr.mk k2 p2 n2 v2 q2 m2 ks2 ss2),(Expr.mk k3 p3 n3 v3 q3 m3 ks3 ss3)] []).row),[PB L (s3)],⟨rfl,rfl⟩,am ?_⟩
    simp only[tt,seval,dx,PB,cB,bD,z0,ah]
  |false=>
  rw[if_neg (by rw[c18];simp)] at h
  simp only[tt,seval,fY]
  refine cS (aZ L hL hT u 17 (by omega) (by omega) ha2) ?_ ?_<;>simp only[tt,seval,PB]
  cases c17:au L u 17 with
  |true=>
   rw[if_pos c17] at h
   simp only[tt,seval,gy]
   have ha3:=aR (L:=L) (aq c17)
   have c2:=pS L hL hT (ok 1) okq hf1 hq (Expr.mk k1 p1 n1 v1 q1 m1 ks1 ss1) n _ _ _ h ha3
   obtain⟨k2,p2,n2,v2,q2,m2,ks2,ss2⟩:=x
   rw[ah,ah] at c2
   refine cS (c2) ?_ ?_<;>simp only[tt,seval,PB]
   refine⟨.ag (av ((Expr.mk k2 p2 n2 v2 q2 m2 ks2 ss2)).row),[PB L (s')],⟨rfl,rfl⟩,am ?_⟩
   simp only[tt,seval,PB,ah]
  |false=>
  rw[if_neg (by rw[c17];simp)] at h
  injection h with h;injection h with h1 h2;subst h1 h2
  simp only[tt,seval,fY]
  cases n with
  |true=>
   simp only[tt,seval]
   refine⟨.ag (av ((Expr.mk k1 p1 n1 v1 q1 m1 ks1 ss1)).row),[PB L (⟨u.a,u.b||true⟩)],⟨rfl,rfl⟩,am ?_⟩
   simp only[tt,seval,PB,ah,Bool.or_true]
  |false=>
   simp only[tt,seval]
   refine⟨.ag (av ((Expr.mk k1 p1 n1 v1 q1 m1 ks1 ss1)).row),[PB L (⟨u.a,u.b⟩)],⟨rfl,rfl⟩,am ?_⟩
   simp only[tt,seval,PB,ah]
 ·have e0:((0:Int)<((cG L s1 4:Nat):Int))=True:=eq_true (by omega)
  rw[if_neg hop] at h
  split at h
  ·cases h
  rename_i y s2 hy
  injection h with h;injection h with h1 h2;subst h1 h2
  simp only[tt,seval,e0]
  refine cS (aM L hL hT s1 true (fun _=>dm hop)) ?_ ?_<;>simp only[tt,seval,PB,sF]
  have ha2:=aR (L:=L) (dm hop)
  obtain⟨k2,p2,n2,v2,q2,m2,ks2,ss2⟩:=y
  have c2:=hf5 _ _ _ hy ha2
  rw[ah] at c2
  apply bo 2
  case h1=>
   refine dDrawn.intro [19] (.take 0 (.take 2 (.br 1 (.br 3 (.br 4 (.take 5 (.br 6 .done .nobr)) .nobr) .nobr) (.br 3 (.take 1 (.br 4 (.take 5 (.br 6 .done .nobr)) .nobr)) .nobr)))) (by kernel_rfl) ?_
   simp only[tt,seval]
   all_goals repeat' first|refine cJ ?_ ?_|refine b7 ?_ ?_
   all_goals
    refine cS (c2) ?_ ?_
    ·simp only[tt,seval,PB]
     decide
    simp only[tt,seval,PB]
   all_goals exact⟨rfl,rfl,rfl⟩
  case h2=>
   intro f' hj0
   simp only[tt,seval,hj0]
   refine⟨.ag (av (f5 (cG L s1 4) (Expr.mk k1 p1 n1 v1 q1 m1 ks1 ss1) (Expr.mk k2 p2 n2 v2 q2 m2 ks2 ss2)).row),[PB L (s2)],⟨rfl,rfl⟩,am ?_⟩
   simp only[tt,seval,dx,PB,f5,bD,z0,ah]
set_option maxHeartbeats 2000000 in
theorem zU (L:List Tok) (hL:L.length<=1048576) (hT:∀t∈L,t.text.size<=1048576) {f:Nat->PM Expr} {q:PM Query} (ok:∀lv,OkM (L:=L) (f lv)) (okq:OkM (L:=L) q) (hf:∀lv:Nat,1<=lv->lv<=8->mj L 39 [vi lv] (f lv)) (hp:mj L 90 [] (f 9)) (hq:zS L 53 q):mj L 39 [vi (3:Nat)] (stepE L f q 3):=by
 intro s x s' h ha
 unfold stepE at h
 simp only[if_true] at h
 refine ae ab false Tryz.func39 rfl (by kernel_rfl) ?_
 simp only[Tryz.f39,tt,seval]
 refine cS (aZ L hL hT s 15 (by omega) (by omega) ha) ?_ ?_<;>simp only[tt,seval,PB]
 cases c15:au L s 15 with
 |true=>
  rw[if_pos c15] at h
  split at h
  ·cases h
  rename_i e s1 he
  injection h with h;injection h with h1 h2;subst h1 h2
  simp only[tt,seval,gy]
  obtain⟨k1,p1,n1,v1,q1,m1,ks1,ss1⟩:=e
  have c1:=hf 3 (by omega) (by omega) _ _ _ he (aR (aq c15))
  rw[ah] at c1
  refine cS (c1) ?_ ?_<;>simp only[tt,seval,PB]
  refine⟨.ag (av (ua 15 (Expr.mk k1 p1 n1 v1 q1 m1 ks1 ss1)).row),[PB L (s1)],⟨rfl,rfl⟩,am ?_⟩
  simp only[tt,seval,dx,PB,ua,bD,z0,ah]
 |false=>
  rw[if_neg (by rw[c15];simp)] at h
  simp only[tt,seval,fY]
  obtain⟨k1,p1,n1,v1,q1,m1,ks1,ss1⟩:=x
  have c1:=hf 4 (by omega) (by omega) _ _ _ h ha
  rw[ah] at c1
  refine cS (c1) ?_ ?_<;>simp only[tt,seval,PB]
  refine⟨.ag (av ((Expr.mk k1 p1 n1 v1 q1 m1 ks1 ss1)).row),[PB L (s')],⟨rfl,rfl⟩,am ?_⟩
  simp only[tt,seval,PB,ah]
theorem zW (L:List Tok) (hL:L.length<=1048576) (hT:∀t∈L,t.text.size<=1048576) {f:Nat->PM Expr} {q:PM Query} (ok:∀lv,OkM (L:=L) (f lv)) (okq:OkM (L:=L) q) (hf:∀lv:Nat,1<=lv->lv<=8->mj L 39 [vi lv] (f lv)) (hp:mj L 90 [] (f 9)) (hq:zS L 53 q):mj L 39 [vi (4:Nat)] (stepE L f q 4):=by
 intro s x s' h ha
 have h:lB L f q s=some (x,s'):=h
 refine ae ab false Tryz.func39 rfl (by kernel_rfl) ?_
 simp only[Tryz.f39,tt,seval]
 obtain⟨k1,p1,n1,v1,q1,m1,ks1,ss1⟩:=x
 have c1:=uk L hL hT ok okq (hf 1 (by omega) (by omega)) (hf 5 (by omega) (by omega)) hq _ _ _ h ha
 rw[ah] at c1
 refine cS (c1) ?_ ?_<;>simp only[tt,seval,PB]
 refine⟨.ag (av ((Expr.mk k1 p1 n1 v1 q1 m1 ks1 ss1)).row),[PB L (s')],⟨rfl,rfl⟩,am ?_⟩
 simp only[tt,seval,PB,ah]
set_option maxHeartbeats 2000000 in
theorem zX (L:List Tok) (hL:L.length<=1048576) (hT:∀t∈L,t.text.size<=1048576) {f:Nat->PM Expr} {q:PM Query} (ok:∀lv,OkM (L:=L) (f lv)) (okq:OkM (L:=L) q) (hf:∀lv:Nat,1<=lv->lv<=8->mj L 39 [vi lv] (f lv)) (hp:mj L 90 [] (f 9)) (hq:zS L 53 q):mj L 39 [vi (8:Nat)] (stepE L f q 8):=by
 intro s x s' h ha
 unfold stepE at h
 simp only[Nat.reduceEqDiff,if_false,if_true] at h
 refine ae ab false Tryz.func39 rfl (by kernel_rfl) ?_
 simp only[Tryz.f39,tt,seval]
 refine cS (bj L hL hT s 45 ha) ?_ ?_<;>simp only[tt,seval,PB]
 cases c45:b3 L s 45 with
 |true=>
  rw[if_pos c45] at h
  split at h
  ·cases h
  rename_i e s1 he
  injection h with h;injection h with h1 h2;subst h1 h2
  simp only[tt,seval]
  refine cS (aM L hL hT s true (fun _=>aD c45)) ?_ ?_<;>simp only[tt,seval,PB,sF]
  obtain⟨k1,p1,n1,v1,q1,m1,ks1,ss1⟩:=e
  have c1:=hf 8 (by omega) (by omega) _ _ _ he (aR (aD c45))
  rw[ah] at c1
  refine cS (c1) ?_ ?_<;>simp only[tt,seval,PB]
  refine⟨.ag (av (ua 16 (Expr.mk k1 p1 n1 v1 q1 m1 ks1 ss1)).row),[PB L (s1)],⟨rfl,rfl⟩,am ?_⟩
  simp only[tt,seval,dx,PB,ua,bD,z0,ah]
 |false=>
  rw[if_neg (by rw[c45];simp)] at h
  simp only[tt,seval]
  obtain⟨k1,p1,n1,v1,q1,m1,ks1,ss1⟩:=x
  have c1:=hp _ _ _ h ha
  rw[ah] at c1
  refine cS (c1) ?_ ?_<;>simp only[tt,seval,PB]
  refine⟨.ag (av ((Expr.mk k1 p1 n1 v1 q1 m1 ks1 ss1)).row),[PB L (s')],⟨rfl,rfl⟩,am ?_⟩
  simp only[tt,seval,PB,ah]
theorem ul {L:List Tok} {s:PS} (w:Nat) (h:s.b=true):cG L s w=0:=by
 cases Nat.eq_zero_or_pos (cG L s w) with
 |inl e=>exact e
 |inr e=>have:=(dm (L:=L) (s:=s) (lv:=w) (by omega)).1;rw[h] at this;cases this
set_option maxHeartbeats 4000000 in
theorem zY (L:List Tok) (hL:L.length<=1048576) (hT:∀t∈L,t.text.size<=1048576) {f:Nat->PM Expr} {q:PM Query} (ok:∀lv,OkM (L:=L) (f lv)) (okq:OkM (L:=L) q) (hf:∀lv:Nat,1<=lv->lv<=8->mj L 39 [vi lv] (f lv)) (hp:mj L 90 [] (f 9)) (hq:zS L 53 q) (w:Nat) (hw:w∈[1,2,5,6,7]):mj L 39 [vi w] (stepE L f q w):=by
 intro s x s' h ha
 have hw2:w∈[1,2,4,5,6,7]:=by simp only[List.mem_cons,List.not_mem_nil,or_false] at hw ⊢;omega
 have hw3:¬w=3 /\ ¬w=4 /\ ¬w=8 /\ ¬w=9/\1<=w/\w<=7:=by simp only[List.mem_cons,List.not_mem_nil,or_false] at hw;omega
 obtain⟨w3,w4,w8,w9,w1,w7⟩:=hw3
 have g3:decide ((w:Int)=3)=false:=ao (by omega)
 have g4:decide ((w:Int)=4)=false:=ao (by omega)
 have g8:decide ((w:Int)=8)=false:=ao (by omega)
 have p3:((w:Int)=3)=False:=eq_false (by omega)
 have p4:((w:Int)=4)=False:=eq_false (by omega)
 have p8:((w:Int)=8)=False:=eq_false (by omega)
 have ew:IntKind.i64.wrap ((w:Int)+1)=((w+1:Nat):Int):=ax (n:=(w:Int)+1) (by omega) (by omega)
 unfold stepE at h
 rw[if_neg w3,if_neg w4,if_neg w8,if_neg w9] at h
 split at h
 ·cases h
 rename_i e s1 he
 have o1:=ok (w+1) _ _ _ he
 have ha1:=o1.2.1 ha
 obtain⟨k1,p1,n1,v1,q1,m1,ks1,ss1⟩:=e
 have c1:=hf (w+1) (by omega) (by omega) _ _ _ he ha
 rw[ah] at c1
 refine ae ab false Tryz.func39 rfl (by kernel_rfl) ?_
 simp only[Tryz.f39,tt,seval]
 simp only[tt,seval,p3,p4,p8,ew]
 refine cS (c1) ?_ ?_<;>simp (config:={ maxSteps:=2000000 }) only[tt,seval,PB]
 refine dLoop.gh [] ?_
 refine dLoop0.introR (fun f' Lo p=>∃(e:Expr) (v:PS) (n:Nat),cH L (f (w+1)) w n e v=some (x,s')/\v.a<=L.length/\(Lo=[(9000,.str (PB L v)),(5,.str (av (e).row)),(4,.str [.v (.int .i64 0),.v (.int .i64 0),.v (.bool false),.v (.int .i64 0),.v (.int .i64 0),.v (.string ByteArray.empty),.v (.string ByteArray.empty),.v (.string ByteArray.empty),.v (.slice none 0 0),.v (.slice none 0 0)])]∨(∃(op:Nat) (a b:Expr),e=f5 op a b/\Lo=[(9000,.str (PB L v)),(5,.str [.v (.int .i64 4),.v (.int .i64 op),.v (.bool false),.v (.int .i64 0),.v (.int .i64 0),.v (.string ByteArray.empty),.v (.string ByteArray.empty),.v (.string ByteArray.empty),.s 10056 2,.v (.slice none 0 0)]),(10056,.arr 29 2 ([a,b].flatMap Expr.row) none),(4,.str [.v (.int .i64 0),.v (.int .i64 0),.v (.bool false),.v (.int .i64 0),.v (.int .i64 0),.v (.string ByteArray.empty),.v (.string ByteArray.empty),.v (.string ByteArray.empty),.v (.slice none 0 0),.v (.slice none 0 0)])]))/\p=none) (fun _ Lo _=>L.length-vS Lo) [(9000,.str (PB L s1)),(5,.str (av ((Expr.mk k1 p1 n1 v1 q1 m1 ks1 ss1)).row)),(4,.str [.v (.int .i64 0),.v (.int .i64 0),.v (.bool false),.v (.int .i64 0),.v (.int .i64 0),.v (.string ByteArray.empty),.v (.string ByteArray.empty),.v (.string ByteArray.empty),.v (.slice none 0 0),.v (.slice none 0 0)])] none ⟨by rw[ah];exact ac rfl (ac rfl (ac rfl (ak _))),al _,?_⟩ ?_
 ·simp only[tt,seval]
  exact⟨(Expr.mk k1 p1 n1 v1 q1 m1 ks1 ss1),s1,L.length+1,h,ha1,.inl rfl⟩
 ·rintro g' Lo p ⟨e,v,n,hm,hv,rfl|⟨op,a,b,rfl,rfl⟩,rfl⟩
  ·obtain⟨k1,p1,n1,v1,q1,m1,ks1,ss1⟩:=e
   rw[ah]
   simp only[tt,seval]
   cases n with
   |zero=>cases hm
   |succ n=>
   rw[cH] at hm
   have fini:cG L v w=0->((Expr.mk k1 p1 n1 v1 q1 m1 ks1 ss1)=x/\v=s'):=fun e0=>by
    rw[if_pos e0] at hm
    injection hm with hm;injection hm with e1 e2;exact⟨e1,e2⟩
   cases hb:v.b with
   |true=>
    obtain⟨e1,e2⟩:=fini (ul w hb)
    subst e1 e2
    simp only[tt,seval,PB,hb]
    refine⟨.ag (av ((Expr.mk k1 p1 n1 v1 q1 m1 ks1 ss1)).row),[PB L v],⟨rfl,by rw[PB,hb]⟩,am ?_⟩
    simp only[tt,seval,PB,ah,hb]
   |false=>
   have hpb:PB L v=[.sl L.length (L.flatMap Tok.row) none,.v (.int .i64 v.a),.v (.bool false)]:=by rw[PB,hb]
   have cop:=sH L hL hT v w hw2 hv
   rw[hpb] at cop
   simp only[tt,seval,PB,hb]
   refine cS (cop) ?_ ?_<;>simp only[tt,seval]
   by_cases hop:cG L v w=0
   ·obtain⟨e1,e2⟩:=fini hop
    subst e1 e2
    have e0:decide (((cG L v w:Nat):Int)=0)=true:=ap (by omega)
    simp only[tt,seval,hop,hb]
    refine⟨.ag (av ((Expr.mk k1 p1 n1 v1 q1 m1 ks1 ss1)).row),[PB L v],⟨rfl,by rw[PB,hb]⟩,am ?_⟩
    simp only[tt,seval,PB,ah,hb]
   ·have e0:decide (((cG L v w:Nat):Int)=0)=false:=ao (by omega)
    have e1:(((cG L v w:Nat):Int)=0)=False:=eq_false (by omega)
    rw[if_neg hop] at hm
    split at hm
    ·cases hm
    rename_i z u hz
    have hav:=aR (L:=L) (dm hop)
    have o3:=ok (w+1) _ _ _ hz
    have o3a:v.a+1<=u.a:=o3.1
    have hu:=o3.2.1 hav
    have hlt:=(dm hop).2
    obtain⟨k2,p2,n2,v2,q2,m2,ks2,ss2⟩:=z
    have c2:=hf (w+1) (by omega) (by omega) _ _ _ hz hav
    rw[ah] at c2
    have cst:=aM L hL hT v true (fun _=>dm hop)
    rw[hpb] at cst
    simp only[tt,seval,e1]
    refine cS (cst) ?_ ?_<;>simp only[tt,seval,PB,sF]
    apply bo 5
    case h1=>
     refine dDrawn.intro [55] (.take 0 (.take 2 (.take 3 (.take 4 (.br 1 (.br 5 (.br 6 (.take 7 (.br 8 .done .nobr)) .nobr) .nobr) (.br 5 (.take 1 (.br 6 (.take 7 (.br 8 .done .nobr)) .nobr)) .nobr)))))) (by kernel_rfl) ?_
     simp only[tt,seval]
     all_goals repeat' first|refine cJ ?_ ?_|refine b7 ?_ ?_
     all_goals
      refine cS (c2) ?_ ?_
      ·simp (config:={ maxSteps:=2000000 }) only[tt,seval,PB,ew]
       decide
      simp (config:={ maxSteps:=2000000 }) only[tt,seval,PB,ew]
     all_goals exact⟨rfl,rfl,rfl⟩
    case h2=>
     intro f' hj0
     refine⟨[.ren 56 10056],by decide,by decide,?_⟩
     simp only[tt,seval]
     refine⟨[(9000,.str (PB L u)),(5,.str [.v (.int .i64 4),.v (.int .i64 (cG L v w)),.v (.bool false),.v (.int .i64 0),.v (.int .i64 0),.v (.string ByteArray.empty),.v (.string ByteArray.empty),.v (.string ByteArray.empty),.s 10056 2,.v (.slice none 0 0)]),(10056,.arr 29 2 ([(Expr.mk k1 p1 n1 v1 q1 m1 ks1 ss1),(Expr.mk k2 p2 n2 v2 q2 m2 ks2 ss2)].flatMap Expr.row) none),(4,.str [.v (.int .i64 0),.v (.int .i64 0),.v (.bool false),.v (.int .i64 0),.v (.int .i64 0),.v (.string ByteArray.empty),.v (.string ByteArray.empty),.v (.string ByteArray.empty),.v (.slice none 0 0),.v (.slice none 0 0)])],none,by simp only[dx,PB,ah,List.flatMap_nil,List.flatMap_cons,List.append_nil];exact ac rfl (ac rfl (ac rfl (ac rfl (ak _)))),al _,⟨f5 (cG L v w) (Expr.mk k1 p1 n1 v1 q1 m1 ks1 ss1) (Expr.mk k2 p2 n2 v2 q2 m2 ks2 ss2),u,n,hm,hu,.inr ⟨_,(Expr.mk k1 p1 n1 v1 q1 m1 ks1 ss1),(Expr.mk k2 p2 n2 v2 q2 m2 ks2 ss2),rfl,rfl⟩,rfl⟩,?_⟩
     show L.length-((u.a:Int)).toNat<L.length-((v.a:Int)).toNat
     omega
  ·skip
   simp only[tt,seval]
   cases n with
   |zero=>cases hm
   |succ n=>
   rw[cH] at hm
   have fini:cG L v w=0->((f5 op a b)=x/\v=s'):=fun e0=>by
    rw[if_pos e0] at hm
    injection hm with hm;injection hm with e1 e2;exact⟨e1,e2⟩
   cases hb:v.b with
   |true=>
    obtain⟨e1,e2⟩:=fini (ul w hb)
    subst e1 e2
    simp only[tt,seval,PB,hb]
    refine⟨.ag (av ((f5 op a b)).row),[PB L v],⟨rfl,by rw[PB,hb]⟩,am ?_⟩
    simp only[tt,seval,dx,PB,f5,bD,z0,ah,hb]
   |false=>
   have hpb:PB L v=[.sl L.length (L.flatMap Tok.row) none,.v (.int .i64 v.a),.v (.bool false)]:=by rw[PB,hb]
   have cop:=sH L hL hT v w hw2 hv
   rw[hpb] at cop
   simp only[tt,seval,PB,hb]
   refine cS (cop) ?_ ?_<;>simp only[tt,seval]
   by_cases hop:cG L v w=0
   ·obtain⟨e1,e2⟩:=fini hop
    subst e1 e2
    have e0:decide (((cG L v w:Nat):Int)=0)=true:=ap (by omega)
    simp only[tt,seval,hop,hb]
    refine⟨.ag (av ((f5 op a b)).row),[PB L v],⟨rfl,by rw[PB,hb]⟩,am ?_⟩
    simp only[tt,seval,dx,PB,f5,bD,z0,ah,hb]
   ·have e0:decide (((cG L v w:Nat):Int)=0)=false:=ao (by omega)
    have e1:(((cG L v w:Nat):Int)=0)=False:=eq_false (by omega)
    rw[if_neg hop] at hm
    split at hm
    ·cases hm
    rename_i z u hz
    have hav:=aR (L:=L) (dm hop)
    have o3:=ok (w+1) _ _ _ hz
    have o3a:v.a+1<=u.a:=o3.1
    have hu:=o3.2.1 hav
    have hlt:=(dm hop).2
    obtain⟨k2,p2,n2,v2,q2,m2,ks2,ss2⟩:=z
    have c2:=hf (w+1) (by omega) (by omega) _ _ _ hz hav
    rw[ah] at c2
    have cst:=aM L hL hT v true (fun _=>dm hop)
    rw[hpb] at cst
    simp only[tt,seval,e1]
    refine cS (cst) ?_ ?_<;>simp only[tt,seval,PB,sF]
    apply bo 5
    case h1=>
     refine dDrawn.intro [55] (.take 0 (.take 2 (.take 3 (.take 4 (.br 1 (.br 5 (.br 6 (.take 7 (.br 8 .done .nobr)) .nobr) .nobr) (.br 5 (.take 1 (.br 6 (.take 7 (.br 8 .done .nobr)) .nobr)) .nobr)))))) (by kernel_rfl) ?_
     simp only[tt,seval]
     all_goals repeat' first|refine cJ ?_ ?_|refine b7 ?_ ?_
     all_goals
      refine cS (c2) ?_ ?_
      ·simp (config:={ maxSteps:=2000000 }) only[tt,seval,PB,ew]
       decide
      simp (config:={ maxSteps:=2000000 }) only[tt,seval,PB,ew]
     all_goals exact⟨rfl,rfl,rfl⟩
    case h2=>
     intro f' hj0
     refine⟨[.ren 56 10056],by decide,by decide,?_⟩
     simp only[tt,seval]
     refine⟨[(9000,.str (PB L u)),(5,.str [.v (.int .i64 4),.v (.int .i64 (cG L v w)),.v (.bool false),.v (.int .i64 0),.v (.int .i64 0),.v (.string ByteArray.empty),.v (.string ByteArray.empty),.v (.string ByteArray.empty),.s 10056 2,.v (.slice none 0 0)]),(10056,.arr 29 2 ([(f5 op a b),(Expr.mk k2 p2 n2 v2 q2 m2 ks2 ss2)].flatMap Expr.row) none),(4,.str [.v (.int .i64 0),.v (.int .i64 0),.v (.bool false),.v (.int .i64 0),.v (.int .i64 0),.v (.string ByteArray.empty),.v (.string ByteArray.empty),.v (.string ByteArray.empty),.v (.slice none 0 0),.v (.slice none 0 0)])],none,by simp only[dx,PB,f5,bD,z0,ah,List.flatMap_nil,List.flatMap_cons,List.append_nil,List.length_nil,List.length_cons];exact ac rfl (ac rfl (ac rfl (ac rfl (ak _)))),al _,⟨f5 (cG L v w) (f5 op a b) (Expr.mk k2 p2 n2 v2 q2 m2 ks2 ss2),u,n,hm,hu,.inr ⟨_,(f5 op a b),(Expr.mk k2 p2 n2 v2 q2 m2 ks2 ss2),rfl,rfl⟩,rfl⟩,?_⟩
     show L.length-((u.a:Int)).toNat<L.length-((v.a:Int)).toNat
     omega
end Go.Proofs.YteffjmaadkkmeaaGreatDoor
