/-
  The calculus over data trees is sound, second half; its equations.
  Conditions: none.
-/
import Derived.Test.YtoegnikpokgbfaaGreatDoorMICalcA
import Derived.Laws.Strings3
import Derived.Laws.DeepStrings4
set_option linter.unusedVariables false
set_option linter.unusedSimpArgs false
set_option linter.defProp false
set_option linter.unusedSectionVars false
set_option linter.unnecessarySimpa false
namespace Go.Dv
open Go Go.RowKit
open Go.Vc (vis aJ CellF RowF ValsF D inN d6 callable aM Stay)
variable [Out]
theorem Sb.nodup {A B:List Nat} (h:Sb A B) (hb:B.Nodup):A.Nodup:=List.nodup_iff_count.2 fun x=>Nat.le_trans (h x) (List.nodup_iff_count.1 hb x)
theorem Sb.mem {A B:List Nat} (h:Sb A B) {x:Nat} (hx:x∈A):x∈B:=List.count_pos_iff.1 (Nat.lt_of_lt_of_le (List.count_pos_iff.2 hx) (h x))
section
variable {P:Program} {n:Nat} {w0:World} {ok0 own0:Nat->Prop} {β:Nat->Option Nat} {f:Rg} {L:Ob} {p:Po} {a:Act} {w:World}
 {K:K0} {Ka:Act->World->Prop} {Q:Exit->Act->World->Prop}
theorem jw:∀(xs:List S) (b i:Nat),fam i<9500->9500<=b->b+xs.length<10000->look (gH b xs) i=none
 | [],_,_,_,_,_=>rfl
 |x::r,b,i,hi,hb,hl=>by
  simp only[gH,bd,Option.or_eq_none_iff]
  refine⟨?_,jw r (b+1) i hi aa (by simp at hl;omega)⟩
  cases hx:look (expO b (aO x)) i with
  |none=>rfl
  |some o=>
   obtain⟨j,_,_,_,_,h1,_⟩:=dH hx
   rw[h1,x5] at hi
   have:fam b=b:=ov aa
   omega
theorem jZ:∀ {xs:List S} {b i:Nat} {o:O},look (gH b xs) i=some o->∃ty m ds F,o = .arr ty m ds F
 | [],_,_,_,h=>by simp [gH,look] at h
 |x::r,b,i,o,h=>by
  simp only[gH,bd] at h
  cases hx:look (expO b (aO x)) i with
  |some o'=>
   simp [hx] at h;subst h
   obtain⟨_,ty,m,ds,F,_,_,h1⟩:=dH hx
   exact⟨ty,m,ds,F,h1⟩
  |none=>simp [hx] at h;exact jZ h
theorem qv {r:S} {objs:List (List C)} {j:Nat} {ty m ds F} (h:(aO r)[j]?=some (.ow ty m ds F)):look (back r objs) (9700+10000*j)=some (.arr ty m ds F):=by
 rw[back,bd,lL h];rfl
theorem lg {r:S} {objs:List (List C)} {i:Nat} {o:O} (hi:fam i<9700) (h:look (dG 0 objs) i=some o):look (back r objs) i=some o:=by
 rw[back,bd]
 have:look (expO 9700 (aO r)) i=none:=by
  cases hx:look (expO 9700 (aO r)) i with
  |none=>rfl
  |some o'=>
   obtain⟨j,_,_,_,_,h1,_⟩:=dH hx
   rw[h1,x5] at hi
   simp [fam] at hi
 rw[this];simpa using h
theorem RelL.okmono {ok ok':Nat->Prop} {β:Nat->Option Nat} {w:World} (h:∀b,ok b->ok' b):∀ {xs:List C} {ys:List Value},RelL P w β ok xs ys->RelL P w β ok' xs ys
 | [],[],_=>trivial
 |_::_,_::_,h1=>⟨h1.1.okmono h,h1.2.okmono h⟩
 | [],_::_,h1=>h1.elim
 |_::_,[],h1=>h1.elim
theorem RelT1.okmono {ok ok':Nat->Prop} {β:Nat->Option Nat} {w:World} (h:∀b,ok b->ok' b) {x:List C×Bool} {v:Value} (h1:RelT1 P w β ok x v):RelT1 P w β ok' x v:=by
 unfold RelT1 at h1 ⊢
 split
 ·rename_i e;rw[if_pos e] at h1;exact h1.okmono h
 ·rename_i e;rw[if_neg e] at h1;obtain⟨vs,h2,h3⟩:=h1;exact⟨vs,h2,h3.okmono h⟩
theorem tT {q:Bool} {o:Oper} {g:FuncId} {sargs:List S} {va:List Value} {d:Nat} {R:List C->Prop} (hn:n<=9000) (hs:Sim P n w0 ok0 own0 β f L p a w) (hargs:RelA P w β (okB w0 ok0 L β) sargs va)
 (hrun:callable P g=true->(execOp a.eval o).run P w = .ok (.enter g va.toArray) w) (hod:(o.dst:Option Nat)=some d) (hdn:d<n) (hN:Hi P g sargs R)
 (hk:∀cs,R cs->K (dT (kR [d] [] f) d (.c (.p d 0))) ((d,.str cs)::kL [d] [] L) p)
 (hK:∀ β' f' L' p' a' w',Sim P n w0 ok0 own0 β' f' L' p' a' w'->Keep o.dst.toList β a β' a'->Tr L β w L' β' w'->(q=true->Stay w w')->K f' L' p'->Ka a' w'):o.wp P a w Ka Q:=by
 have hf:fam d=d:=Nat.mod_eq_of_lt aa
 unfold Oper.wp
 rw[hrun hN.1,Oper.upon_enter]
 refine (hN.2 w β _ va hargs (hs.gl.mono (fun _ _ _=>rfl) fun _ h=>h.elim)).mono ?_
 rintro e w' ⟨b,cs,xs,ty,lh,rfl,hR,hns,hb,hcell,hlh,hrel,hkeep,hwd,ho⟩
 have hmono:∀x,(x≠b/\(x<w.heap.size->okB w0 ok0 L β x))->okB w0 ok0 ((d,.str cs)::kL [d] [] L) (fun j=>if j=d then some b else β j) x:=fun x hx=>by
  refine⟨?_,fun hlt=>(hx.2 (Nat.lt_of_lt_of_le hlt hs.wd)).2 hlt⟩
  rintro⟨i,o',h1,h2⟩
  by_cases hi:i=d
  ·subst hi;simp at h2;exact hx.1 h2.symm
  ·have hdi:¬d=i:=fun e=>hi e.symm
   have h1:look (kL [d] [] L) i=some o':=by simpa [look,hdi] using h1
   obtain⟨j,o2,h3,_,h5⟩:=rB (β:=β) (β':=β) (fun _ _=>rfl) ⟨i,o',h1,by simpa [hi] using h2⟩
   have hown:ownB L β x:=⟨j,o2,h3,h5⟩
   obtain⟨c1,t1,_,hc1,_⟩:=hs.own_there hown
   exact (hx.2 (bq hc1)).1 hown
 obtain⟨h1,h2⟩:=hs.place (g:=some b) (x:=.c (.p d 0)) (v:=.pointer (some ⟨b,0,none⟩)) (is:=[]) (ob:=.str cs) hwd ho (fun x hx _=>hkeep x hx)
  (fun x e=>by injection e with e;subst e;exact⟨.inl hb,xs,ty,lh,hcell,fun cs' ty' lh hc=>absurd (bq hc) aa⟩) hf
  (fun _ _=>⟨b,xs,ty,lh,by simp,hcell,hlh,SelfOk.none (hD hns),(hrel _).okmono hmono⟩) ⟨b,by simp,rfl⟩ hdn
 show Ka (a.put o.dst (.pointer (some ⟨b,0,none⟩))) w'
 rw[hod]
 exact hK _ _ _ _ _ _ h1 (by rw[hod];exact gE a d _ hf _) h2 (fun _=>⟨hwd,hkeep⟩) (hk cs hR)
theorem tU {q:Bool} {o:Oper} {g:FuncId} {sargs:List S} {va:List Value} {d:Nat} {R:List C->List C×Bool->Prop} (hn:n<=9000) (hs:Sim P n w0 ok0 own0 β f L p a w) (hargs:RelA P w β (okB w0 ok0 L β) sargs va)
 (hrun:callable P g=true->(execOp a.eval o).run P w = .ok (.enter g va.toArray) w) (hod:(o.dst:Option Nat)=some d) (hdn:d<n) (hN:IE P g sargs R)
 (hk:∀cs x,R cs x->K (dT (kR [d] [] f) d (.tu [([.p d 0],true),x])) ((d,.str cs)::kL [d] [] L) p)
 (hK:∀ β' f' L' p' a' w',Sim P n w0 ok0 own0 β' f' L' p' a' w'->Keep o.dst.toList β a β' a'->Tr L β w L' β' w'->(q=true->Stay w w')->K f' L' p'->Ka a' w'):o.wp P a w Ka Q:=by
 have hf:fam d=d:=Nat.mod_eq_of_lt aa
 unfold Oper.wp
 rw[hrun hN.1,Oper.upon_enter]
 refine (hN.2 w β _ va hargs (hs.gl.mono (fun _ _ _=>rfl) fun _ h=>h.elim)).mono ?_
 rintro e w' ⟨b,cs,xs,ty,lh,x0,v0,rfl,hR,hns,hb,hcell,hlh,hrel,hkeep,hwd,ho⟩
 have hmono:∀x,(x≠b/\(x<w.heap.size->okB w0 ok0 L β x))->okB w0 ok0 ((d,.str cs)::kL [d] [] L) (fun j=>if j=d then some b else β j) x:=fun x hx=>by
  refine⟨?_,fun hlt=>(hx.2 (Nat.lt_of_lt_of_le hlt hs.wd)).2 hlt⟩
  rintro⟨i,o',h1,h2⟩
  by_cases hi:i=d
  ·subst hi;simp at h2;exact hx.1 h2.symm
  ·have hdi:¬d=i:=fun e=>hi e.symm
   have h1:look (kL [d] [] L) i=some o':=by simpa [look,hdi] using h1
   obtain⟨j,o2,h3,_,h5⟩:=rB (β:=β) (β':=β) (fun _ _=>rfl) ⟨i,o',h1,by simpa [hi] using h2⟩
   have hown:ownB L β x:=⟨j,o2,h3,h5⟩
   obtain⟨c1,t1,_,hc1,_⟩:=hs.own_there hown
   exact (hx.2 (bq hc1)).1 hown
 obtain⟨h1,h2⟩:=hs.place (g:=some b) (x:=.tu [([.p d 0],true),x0]) (v:=.tuple #[.pointer (some ⟨b,0,none⟩),v0]) (is:=[]) (ob:=.str cs) hwd ho (fun x hx _=>hkeep x hx)
  (fun x e=>by injection e with e;subst e;exact⟨.inl hb,xs,ty,lh,hcell,fun cs' ty' lh hc=>absurd (bq hc) aa⟩) hf
  (fun _ _=>⟨b,xs,ty,lh,by simp,hcell,hlh,SelfOk.none (hD hns),(hrel _).1.okmono hmono⟩) ⟨[.pointer (some ⟨b,0,none⟩),v0],rfl,⟨⟨b,by simp,rfl⟩,trivial⟩,(hrel _).2.okmono hmono,trivial⟩ hdn
 show Ka (a.put o.dst (.tuple #[.pointer (some ⟨b,0,none⟩),v0])) w'
 rw[hod]
 exact hK _ _ _ _ _ _ h1 (by rw[hod];exact gE a d _ hf _) h2 (fun _=>⟨hwd,hkeep⟩) (hk cs x0 hR)
theorem tV {q:Bool} {o:Oper} {g:FuncId} {sargs:List S} {va:List Value} (hn:n<=9000) (hs:Sim P n w0 ok0 own0 β f L p a w) (hargs:RelA P w β (okB w0 ok0 L β) sargs va)
 (hrun:callable P g=true->(execOp a.eval o).run P w = .ok (.enter g va.toArray) w) (h:Call1 q P g sargs n o.dst K f L p)
 (hK:∀ β' f' L' p' a' w',Sim P n w0 ok0 own0 β' f' L' p' a' w'->Keep o.dst.toList β a β' a'->Tr L β w L' β' w'->(q=true->Stay w w')->K f' L' p'->Ka a' w'):o.wp P a w Ka Q:=by
 unfold Call1 at h
 rcases hod:(o.dst:Option Nat) with _|d
 ·simp [hod] at h
 simp only[hod] at h
 obtain⟨hdn,h⟩:=h
 rcases h with h|⟨R,hN,hk⟩|⟨R,hN,hk⟩
 rotate_left
 ·exact tT (q:=q) hn hs hargs hrun hod hdn hN hk hK
 ·exact tU (q:=q) hn hs hargs hrun hod hdn hN hk hK
 obtain⟨args,objs,T,p0,R,ok,hfam,hq,hsp,cont⟩:=h
 have hpool:∀rest,p0=some rest->(T++rest.flatten).Nodup/\∀b∈T++rest.flatten,(w0.heap.size<=b∨own0 b)/\(∃cs t lh,w.heap[b]?=some (.cells cs t lh)/\Lh cs.size lh) /\ ¬ownB L β b:=fun rest e=>by
  rcases hsp with⟨rfl,rfl⟩|⟨ps,rest',h1,h2,h3⟩
  ·exact hs.pool rest e
  ·rw[h2] at e;injection e with e;subst e
   obtain⟨h4,h5⟩:=hs.pool ps h1
   exact⟨h3.nodup h4,fun b hb=>h5 b (h3.mem hb)⟩
 have hT:∀b∈T,(w0.heap.size<=b∨own0 b)/\(∃cs t lh,w.heap[b]?=some (.cells cs t lh)/\Lh cs.size lh) /\ ¬ownB L β b:=fun b hb=>by
  rcases hsp with⟨rfl,_⟩|⟨ps,rest',_,h2,_⟩
  ·cases hb
  ·exact (hpool rest' h2).2 b (List.mem_append_left _ hb)
 have hTok:∀b∈T,okB w0 ok0 L β b:=fun b hb=>⟨(hT b hb).2.2,fun hlt=>by
  rcases (hT b hb).1 with h1|h1
  ·omega
  ·exact hs.sub.1 b h1⟩
 have hTn:T.Nodup:=by
  rcases hsp with⟨rfl,_⟩|⟨ps,rest',_,h2,_⟩
  ·exact List.nodup_nil
  ·exact (List.nodup_append.1 (hpool rest' h2).1).1
 obtain⟨hcl,hfew,hA,hB,honce,hdisj⟩:=ok
 generalize hρ:rho L sargs args objs=ρ at *
 generalize hbs:brw L ρ sargs args objs=bs at *
 have hd:=lM hdisj
 have hbs1:∀i∈tN sargs (expA 9500 args),i∈bs:=fun i hi=>by rw[<-hbs];exact List.mem_append_left _ hi
 have hbs2:∀i∈l4 L ρ (lent args objs),i∈bs:=fun i hi=>by rw[<-hbs];exact List.mem_append_right _ hi
 have hpre:=xd hs hB hd hbs1 hA hargs
 have hobj:=qY hs hB honce hd hbs2
 have hlentB:∀b,ownB (lent args objs) (bc ρ β) b->ownB L β b:=fun b ho=>by
  obtain⟨j,i,o1,o2,_,_,h3,_,h4⟩:=iQ hB ho;exact⟨i,o2,h3,h4⟩
 have hglT:GlW w (fun b=>ownB (lent args objs) (bc ρ β) b∨b∈T):=fun t ht=>by
  obtain⟨h1,h2⟩:=hs.gl t ht
  obtain⟨h3,_,_,_,h4,_⟩:=hs.sub.2 t ht
  refine⟨fun h=>h.elim (fun h=>h1 (hlentB _ h)) fun h=>?_,h2⟩
  rcases (hT _ h).1 with h5|h5
  ·have:=bq h4;omega
  ·exact h3 h5
 have hc:=hcl.2 w (bc ρ β) (x6 w0 ok0 L β bs) va hpre hobj hglT ⟨hTn,fun b hb=>⟨⟨fun h=>(hT b hb).2.2 (hlentB b h),.inl (hTok b hb)⟩,(hT b hb).2.1⟩⟩
 unfold Oper.wp
 rw[hrun hcl.1,Oper.upon_enter]
 refine hc.mono ?_
 rintro e w' ⟨v,r,objs',β',rfl,hR,post⟩
 obtain⟨htold,hk⟩:=cont r objs' hR post.len
 have hlen:=post.len
 have hd9:@LT.lt Nat _ d 10000:=Nat.lt_of_lt_of_le hdn (Nat.le_trans hn ae)
 have hflat:=post.flat
 simp only[flat,Bool.and_eq_true,decide_eq_true_eq] at hflat
 obtain⟨⟨⟨fl1,fl2⟩,fl3⟩,fl4⟩:=hflat
 have hol:objs.length<=50:=by rw[<-hlen];exact fl4
 have hwlt:∀b,ownB L β b->b<w.heap.size:=fun b ho=>by obtain⟨cs,ty,_,hc,_⟩:=hs.own_there ho;exact bq hc
 have hstr:∀t cs,objs'[t]?=some cs->∃i cs',lk ρ (9000+t)=some i/\look L i=some (.str cs'):=fun t cs ht=>by
  have htl:t<objs.length:=by rw[<-hlen];exact (List.getElem?_eq_some_iff.1 ht).1
  have h1:=im (k:=0) (aC htl) aa
  rw[Nat.zero_add] at h1
  have hnone:look (gH 9500 args) (9000+t)=none:=jw args 9500 _ (by rw[ov aa];omega) (Nat.le_refl _) aa
  have h2:look (lent args objs) (9000+t)=some (.str (expC (9200+t) objs[t])):=by rw[lent,bd,hnone];simpa using h1
  rcases iP hB h2 with⟨i,o',h3,h4,h5⟩|⟨_,_,_,h3⟩
  ·cases o' with
   |str cs'=>exact⟨i,cs',h3,h4⟩
   |arr=>exact h5.elim
  ·cases h3
 let β2:Nat->Option Nat:=fun j=>if fam j=d then β' (GB j) else β j
 let L2:Ob:=expO (d+10000) (aO r)++(mS ρ d 0 objs'++kL [d] (mR L ρ) L)
 have hβ:∀i,bH [d] (mR L ρ) i=false->β2 i=β i:=fun i hi=>by
  have:¬fam i=d:=fun e=>by simp [bH,inN,e] at hi
  simp [β2,this]
 have cases2:∀i o,look L2 i=some o ->
  (∃i',i=bm ρ d i'/\β2 i=β' i'/\((∃j ty m ds F,i'=9700+10000*j/\(aO r)[j]?=some (.ow ty m ds F)/\o = .arr ty m ds F/\look (back r objs') i'=some o) ∨
    (∃t cs j ty m ds F,objs'[t]?=some cs/\cs[j]?=some (.ow ty m ds F)/\o = .arr ty m ds F/\i'=9200+t+10000*j/\look (back r objs') i'=some o) ∨
    (∃t cs,objs'[t]?=some cs/\i'=9000+t/\o = .str (expC (nk d t) cs)/\β2 i=β i/\look (back r objs') i'=some (.str (expC (9200+t) cs))))) ∨
  (∃o',look L i=some o'/\o=kO [d] (mR L ρ) o'/\bH [d] (mR L ρ) i=false/\∀b,β i=some b -> ¬ownB (lent args objs) (bc ρ β) b):=by
  intro i o hl
  simp only[L2,bd] at hl
  cases h1:look (expO (d+10000) (aO r)) i with
  |some o'=>
   simp [h1] at hl;subst hl
   obtain⟨j,ty,m,ds,F,h2,h3,h4⟩:=dH h1
   have hj:=(List.getElem?_eq_some_iff.1 h3).1
   refine .inl ⟨9700+10000*j,?_,?_,.inl ⟨j,ty,m,ds,F,rfl,h3,h4,by rw[h4];exact qv h3⟩⟩
   ·have e1:fam (9700+10000*j)=9700:=by simp only[fam];omega
    have e2:(9700+10000*j) / 10000=j:=by omega
    simp only[bm,e1,if_true,e2];exact h2
   ·rw[h2];simp only[β2]
    rw[if_pos (xj hd9),xh hd9 aa]
  |none=>
   simp only[h1,Option.none_or] at hl
   cases h2:look (mS ρ d 0 objs') i with
   |some o'=>
    simp [h2] at hl;subst hl
    rcases r6 h2 with⟨t,cs,h3,h4,h5⟩|⟨t,cs,j,ty,m,ds,F,h3,h4,h5,h6⟩
    ·rw[Nat.zero_add] at h4 h5
     have ht:=(List.getElem?_eq_some_iff.1 h3).1
     obtain⟨i',cs',h6,h7⟩:=hstr t cs h3
     rw[h4] at h6;injection h6 with h6;subst h6
     have hfi:=r7 hfam h4 h7
     have e1:fam (9000+t)=9000+t:=ov aa
     have hb2:β2 i=β i:=by simp only[β2];rw[if_neg hfi]
     refine .inl ⟨9000+t,?_,?_,.inr (.inr ⟨t,cs,h3,rfl,h5,hb2,?_⟩)⟩
     ·simp only[bm,e1];rw[if_neg aa,if_pos aa,h4];rfl
     ·rw[hb2,post.fix t aa];simp [bc,h4]
     ·have:=im (k:=0) h3 aa
      rw[Nat.zero_add] at this
      exact lg aa this
    ·rw[Nat.zero_add] at h5
     have ht:=(List.getElem?_eq_some_iff.1 h3).1
     have hj:=(List.getElem?_eq_some_iff.1 h4).1
     have hl9:=(mU fl3 h3).2
     have e1:fam (9200+t+10000*j)=9200+t:=by simp only[fam];omega
     have e2:(9200+t+10000*j) / 10000=j:=by omega
     refine .inl ⟨9200+t+10000*j,?_,?_,.inr (.inl ⟨t,cs,j,ty,m,ds,F,h3,h4,h6,rfl,?_⟩)⟩
     ·have e3:9200+t-9200=t:=by omega
      simp only[bm,e1,e2];rw[if_neg aa,if_neg aa,h5,e3]
     ·rw[h5];simp only[β2]
      rw[if_pos (tR hd9),tQ hd9 aa]
     ·have:=lf (k:=0) h3 h4 aa
      rw[Nat.zero_add] at this
      rw[h6];exact lg aa this
   |none=>
    simp only[h2,Option.none_or] at hl
    rw[mb] at hl
    split at hl
    ·cases hl
    rename_i hh
    have hh:bH [d] (mR L ρ) i=false:=by simpa using hh
    cases hlL:look L i with
    |none=>simp [hlL] at hl
    |some o'=>
     simp [hlL] at hl
     refine .inr ⟨o',rfl,hl.symm,hh,fun b hb ho=>?_⟩
     obtain⟨j,i',oc,o2,h3,h4,h5,h6,h7⟩:=iQ hB ho
     have:=hs.inj i i' o' o2 b hlL h5 hb h7
     subst this
     cases o2 with
     |arr ty m ds F=>
      have:=tS h4 h5
      simp [bH,inN_iff.2 this] at hh
     |str cs2=>
      cases oc with
      |arr=>exact h6.elim
      |str cs3=>
       rw[lent,bd] at h3
       cases h8:look (gH 9500 args) j with
       |some o3=>
        simp [h8] at h3
        obtain⟨_,_,_,_,h9⟩:=jZ h8
        rw[h9] at h3;cases h3
       |none=>
        simp [h8] at h3
        rcases qW h3 with⟨t,cs,h9,h10,_⟩|⟨t,cs,j',ty,m,ds,F,_,_,_,h9⟩
        ·rw[Nat.zero_add] at h10
         have ht:=(List.getElem?_eq_some_iff.1 h9).1
         exact jY (k:=0) (d:=d) (by rw[hlen];exact ht) (by rw[Nat.zero_add,<-h10];exact h4) h2
        ·cases h9
 have own2:∀b,ownB L2 β2 b->ownB (back r objs') β' b∨(ownB L β b /\ ¬ownB (lent args objs) (bc ρ β) b):=by
  rintro b ⟨i,o,h1,h2⟩
  rcases cases2 i o h1 with⟨i',h3,h4,h5⟩|⟨o',h3,h4,h5,h6⟩
  ·rw[h4] at h2
   rcases h5 with⟨_,_,_,_,_,_,_,_,h6⟩|⟨_,_,_,_,_,_,_,_,_,_,_,h6⟩|⟨_,_,_,_,_,_,h6⟩
   ·exact .inl ⟨i',_,h6,h2⟩
   ·exact .inl ⟨i',_,h6,h2⟩
   ·exact .inl ⟨i',_,h6,h2⟩
  ·rw[hβ i h5] at h2
   exact .inr ⟨⟨i,o',h3,h2⟩,h6 b h2⟩
 have hsame:∀b,b<w.heap.size -> ¬ownB (lent args objs) (bc ρ β) b->w'.heap[b]?=w.heap[b]?:=post.tr.keep
 have not2:∀b,b<w.heap.size -> ¬ownB L β b -> ¬ownB L2 β2 b:=fun b hb hn ho=>by
  rcases own2 b ho with h1|⟨h1,_⟩
  ·exact hn (hlentB b (post.tr.own b hb h1))
  ·exact hn h1
 have stab:Stab w w' (okB w0 ok0 L β) (okB w0 ok0 L2 β2):=
  ⟨fun b hv hok=>⟨hsame b (vis_lt hv) fun e=>hok.1 (hlentB b e),not2 b (vis_lt hv) hok.1,hok.2⟩,post.tr.cells⟩
 have up:∀F:Fp,(∀Fs,F=some Fs->∀G∈Fs,G∈fps r objs')->(bs=[]∨F≠none)->Up w' (okR w (x6 w0 ok0 L β bs) (lent args objs) (bc ρ β) (back r objs') β') (okB w0 ok0 L2 β2) F:=by
  intro F hF hT G hG1 hG2 b hb
  obtain⟨q1,q2⟩:=hG1 b hb
  have q3:b<w.heap.size->okB w0 ok0 L β b∨ownB (lent args objs) (bc ρ β) b:=fun hbw=>by
   rcases q2 hbw with (hk|⟨i,hi,_,hbi⟩)|hk
   ·exact .inl hk
   ·rcases hT with hT|hT
    ·rw[hT] at hi;cases hi
    ·cases F with
     |none=>exact absurd rfl hT
     |some Fs=>
      have h1:=hG2 Fs rfl b
      have h2:0<G.count b:=List.count_pos_iff.2 hb
      have h3:b∈Fs.flatten:=List.count_pos_iff.1 aa
      obtain⟨G',h4,h5⟩:=List.mem_flatten.1 h3
      have h6:b∈(fps r objs').flatten:=List.mem_flatten.2 ⟨G',hF Fs rfl G' h4,h5⟩
      rcases (post.fresh.2 b h6).1 with h7|h7|h7
      ·omega
      ·exact .inr h7
      ·exact .inl (hTok b h7)
   ·exact .inr hk
  refine⟨fun ho=>?_,fun hlt=>?_⟩
  ·rcases own2 b ho with h1|⟨h1,h2⟩
   ·exact q1 h1
   ·rcases q3 (hwlt b h1) with h3|h3
    ·exact h3.1 h1
    ·exact h2 h3
  ·rcases q3 (Nat.lt_of_lt_of_le hlt hs.wd) with h3|h3
   ·exact h3.2 hlt
   ·exact hs.sub.1 b (hs.old b (hlentB b h3) hlt)
 have upR:∀x∈aO r,∀F:Fp,(jW x=true->F≠none)->(∀Fs,F=some Fs->tM x=Fs)->Up w' (okR w (x6 w0 ok0 L β bs) (lent args objs) (bc ρ β) (back r objs') β') (okB w0 ok0 L2 β2) F:=fun x hx F h1 h2=>
  up F (fun Fs e G hG=>List.mem_append_left _ (rK hx G (by rw[h2 Fs e];exact hG))) (htold.imp id fun h=>by
   simp only[Bool.and_eq_true] at h
   exact h1 (mT h.1 hx))
 have upB:∀t cs,objs'[t]?=some cs->∀x∈cs,∀F:Fp,(jW x=true->F≠none)->(∀Fs,F=some Fs->tM x=Fs)->Up w' (okR w (x6 w0 ok0 L β bs) (lent args objs) (bc ρ β) (back r objs') β') (okB w0 ok0 L2 β2) F:=fun t cs ht x hx F h1 h2=>
  up F (fun Fs e G hG=>List.mem_append_right _ (xg ht hx G (by rw[h2 Fs e];exact hG))) (htold.imp id fun h=>by
   simp only[Bool.and_eq_true] at h
   exact h1 (mT (r5 h.2 ht) hx))
 have tsl:∀m ds F,jW (.sl m ds F)=true->F≠none:=fun m ds F h e=>by subst e;simp [jW] at h
 have tow:∀ty m ds F,jW (.ow ty m ds F)=true->F≠none:=fun ty m ds F h e=>by subst e;simp [jW] at h
 have fsl:∀m ds (F:Fp) Fs,F=some Fs->tM (.sl m ds F)=Fs:=fun m ds F Fs e=>by subst e;rfl
 have fow:∀ty m ds (F:Fp) Fs,F=some Fs->tM (.ow ty m ds F)=Fs:=fun ty m ds F Fs e=>by subst e;rfl
 have hr2:RelS P w' β2 (okB w0 ok0 L2 β2) (expS (d+10000) r) v:=
  Aq fl1 (fun j hj=>by simp only[β2];rw[if_pos (xj hd9),xh hd9 aa]) (fun m ds F hm=>upR _ hm F (tsl m ds F) (fsl m ds F)) post.rel
 have hsim:Sim P n w0 ok0 own0 β2 (dT (kR [d] (mR L ρ) f) d (expS (d+10000) r)) L2 (yp p0 (fps r objs')) (a.put (some d) v) w':=by
  refine⟨by rw[Go.Vc.Act.size_put];exact hs.size,by rw[Go.Vc.Act.defers_put];exact hs.defers,fun i=>?_,fun i o hl=>?_,fun i j o o' b hi hj hbi hbj=>?_,fun b ho hlt=>?_,hs.sub,fun b hb hnb=>?_,hs.wd.trans post.wd,
   ⟨post.outer.1.trans hs.outer.1,post.outer.2.1.trans hs.outer.2.1,post.outer.2.2.trans hs.outer.2.2⟩,fun ps hps=>?_⟩
  ·rw[Go.Vc.getD_put hs.size]
   simp only[dT]
   by_cases hi:i=d
   ·subst hi;simp only[hdn,and_true,if_true];exact hr2
   ·simp only[hi,false_and,if_false,kR];exact (hs.slots i).tr hβ stab
  ·rcases cases2 i o hl with⟨i',h3,h4,h5⟩|⟨o',h3,h4,h5,h6⟩
   ·rcases h5 with⟨j,ty,m,ds,F,e1,h7,e2,h6⟩|⟨t,cs,j,ty,m,ds,F,h7,h8,e2,e1,h6⟩|⟨t,cs,h7,e1,e2,h8,h6⟩
    ·have:=post.obs.rel i' o h6
     rw[e2] at this ⊢
     exact xe h4 (upR _ (List.mem_of_getElem? h7) F (tow ty m ds F) (fow ty m ds F)) this
    ·have:=post.obs.rel i' o h6
     rw[e2] at this ⊢
     exact xe h4 (upB t cs h7 _ (List.mem_of_getElem? h8) F (tow ty m ds F) (fow ty m ds F)) this
    ·have:=post.obs.rel i' _ h6
     rw[e2]
     obtain⟨b,vs,ty,lh,q1,q2,hlh,hsf,q3⟩:=this
     have hfl:=mU fl3 h7
     have ht:=(List.getElem?_eq_some_iff.1 h7).1
     exact⟨b,vs,ty,lh,h4.trans q1,q2,hlh,hsf.expC,jX hfl.1 (fun j hj=>by simp only[β2];rw[if_pos (tR hd9),tQ hd9 aa]) (fun m ds F hm=>upB t cs h7 _ hm F (tsl m ds F) (fsl m ds F)) q3⟩
   ·rw[h4]
    refine (hs.objs i o' h3).tr hβ stab h5 fun b hb=>hsame b (hwlt b ⟨i,o',h3,hb⟩) (h6 b hb)
  ·rcases cases2 i o hi with⟨i',h3,h4,h5⟩|⟨o1,h3,h4,h5,h6⟩
   ·have l1:∃o1,look (back r objs') i'=some o1:=by
     rcases h5 with⟨_,_,_,_,_,_,_,_,h6⟩|⟨_,_,_,_,_,_,_,_,_,_,_,h6⟩|⟨_,_,_,_,_,_,h6⟩<;>exact⟨_,h6⟩
    obtain⟨o1,l1⟩:=l1
    rcases cases2 j o' hj with⟨j',k3,k4,k5⟩|⟨o2,k3,k4,k5,k6⟩
    ·have l2:∃o1,look (back r objs') j'=some o1:=by
      rcases k5 with⟨_,_,_,_,_,_,_,_,h6⟩|⟨_,_,_,_,_,_,_,_,_,_,_,h6⟩|⟨_,_,_,_,_,_,h6⟩<;>exact⟨_,h6⟩
     obtain⟨o2,l2⟩:=l2
     have:=post.obs.inj i' j' o1 o2 b l1 l2 (by rw[<-h4];exact hbi) (by rw[<-k4];exact hbj)
     rw[h3,k3,this]
    ·rw[hβ j k5] at hbj
     have hb:=hwlt b ⟨j,o2,k3,hbj⟩
     exact absurd (post.tr.own b hb ⟨i',o1,l1,by rw[<-h4];exact hbi⟩) (k6 b hbj)
   ·rw[hβ i h5] at hbi
    rcases cases2 j o' hj with⟨j',k3,k4,k5⟩|⟨o2,k3,k4,k5,k6⟩
    ·have l2:∃o1,look (back r objs') j'=some o1:=by
      rcases k5 with⟨_,_,_,_,_,_,_,_,h6⟩|⟨_,_,_,_,_,_,_,_,_,_,_,h6⟩|⟨_,_,_,_,_,_,h6⟩<;>exact⟨_,h6⟩
     obtain⟨o2,l2⟩:=l2
     have hb:=hwlt b ⟨i,o1,h3,hbi⟩
     exact absurd (post.tr.own b hb ⟨j',o2,l2,by rw[<-k4];exact hbj⟩) (h6 b hbi)
    ·rw[hβ j k5] at hbj
     exact hs.inj i j o1 o2 b h3 k3 hbi hbj
  ·rcases own2 b ho with h1|⟨h1,_⟩
   ·exact hs.old b (hlentB b (post.tr.own b (Nat.lt_of_lt_of_le hlt hs.wd) h1)) hlt
   ·exact hs.old b h1 hlt
  ·exact (hsame b (Nat.lt_of_lt_of_le hb hs.wd) fun e=>hnb (hs.old b (hlentB b e) hb)).trans (hs.frame b hb hnb)
  ·cases p0 with
   |none=>simp [yp] at hps
   |some ps0=>
    simp only[yp,Option.some.injEq] at hps
    subst hps
    obtain⟨h0,h2'⟩:=hpool ps0 rfl
    obtain⟨_,h1,h0'⟩:=List.nodup_append.1 h0
    have h2:=fun b (hb:b∈ps0.flatten)=>h2' b (List.mem_append_right _ hb)
    obtain⟨h3,h4⟩:=post.fresh
    rw[List.flatten_append]
    refine⟨List.nodup_append.2 ⟨h1,h3,fun x hx y hy e=>?_⟩,fun b hb=>?_⟩
    ·subst e
     obtain⟨_,⟨cs,t,lh,h6,_⟩,h7⟩:=h2 x hx
     rcases (h4 x hy).1 with h8|h8|h8
     ·have:=bq h6;omega
     ·exact h7 (hlentB x h8)
     ·exact h0' x h8 x hx rfl
    ·rcases List.mem_append.1 hb with hb|hb
     ·obtain⟨h5,⟨cs,t,lh,h6,hlh⟩,h7⟩:=h2 b hb
      have hbw:=bq h6
      exact⟨h5,⟨cs,t,lh,(hsame b hbw fun e=>h7 (hlentB b e)).trans h6,hlh⟩,not2 b hbw h7⟩
     ·obtain⟨h5,h6,h7⟩:=h4 b hb
      refine⟨?_,h6,fun ho=>?_⟩
      ·rcases h5 with h5|h5|h5
       ·exact .inl (Nat.le_trans hs.wd h5)
       ·by_cases hlt:b<w0.heap.size
        ·exact .inr (hs.old b (hlentB b h5) hlt)
        ·exact .inl aa
       ·exact (hT b h5).1
      ·rcases own2 b ho with h8|⟨h8,h9⟩
       ·exact h7 h8
       ·rcases h5 with h5|h5|h5
        ·have:=hwlt b h8;omega
        ·exact h9 h5
        ·exact (hT b h5).2.2 h8
 show Ka (a.put o.dst v) w'
 rw[hod]
 refine hK β2 _ L2 _ _ w' hsim ?_ ⟨post.wd,fun b hb hn=>hsame b hb fun e=>hn (hlentB b e),fun b hb ho=>?_,post.tr.cells⟩ (fun e=>⟨post.wd,fun b hb=>hsame b hb fun ho=>?_⟩) hk
 ·rw[hod]
  exact⟨fun j hj=>by
   have:¬fam j=d:=fun e=>hj (by simp [e])
   simp [β2,this],fun j hj=>by rw[Go.Vc.getD_put rfl,if_neg (fun e=>hj (by simp [e.1]))]⟩
 ·rcases own2 b ho with h1|⟨h1,_⟩
  ·exact hlentB b (post.tr.own b hb h1)
  ·exact h1
 ·rw[hq e] at ho
  obtain⟨i,o,h1,_⟩:=ho
  simp [look] at h1
theorem rL {ok ok':Nat->Prop} (h:∀b,ok b->ok' b) {i m:Nat} {x:C} (hx:∀y,OwnS P w (β i) m y->RelC P w β ok' x y):∀ {ss:List S} {vs:List Value},RelA P w β ok ss vs->RelA P w β ok' (Ew i m x ss) vs
 | [],[],_=>trivial
 |_::_,_::_,hr=>⟨Ac h hx hr.1,rL h hx hr.2⟩
 | [],_::_,hr=>hr.elim
 |_::_,[],hr=>hr.elim
theorem pu {k:List S->K0}:∀(is:List Nat) {ss:List S} {f:Rg} {L:Ob} {p:Po} {vs:List Value},Sim P n w0 ok0 own0 β f L p a w->RelA P w β (okB w0 ok0 L β) ss vs->vE is ss k f L p ->
 ∃ss' f' L' p',k ss' f' L' p'/\Sim P n w0 ok0 own0 β f' L' p' a w/\Tr L β w L' β w/\RelA P w β (okB w0 ok0 L' β) ss' vs
 | [],ss,f,L,p,vs,hs,hr,h=>⟨ss,f,L,p,h,hs,Tr.refl _ _ _,hr⟩
 |i::is,ss,f,L,p,vs,hs,hr,h=>by
  simp only[vE] at h
  obtain⟨m,x,f',L',p',hk,hs',ht,hm,hx⟩:=kM hs h
  obtain⟨ss',f'',L'',p'',hk',hs'',ht',hr'⟩:=pu is hs' (rL hm hx hr) hk
  exact⟨ss',f'',L'',p'',hk',hs'',ht.trans ht',hr'⟩
theorem vF {q:Bool} {o:Oper} {g:FuncId} {sargs:List S} {va:List Value} (hn:n<=9000) (hs:Sim P n w0 ok0 own0 β f L p a w) (hargs:RelA P w β (okB w0 ok0 L β) sargs va)
 (hrun:callable P g=true->(execOp a.eval o).run P w = .ok (.enter g va.toArray) w) (h:CallQ q P g sargs n o.dst K f L p)
 (hK:∀ β' f' L' p' a' w',Sim P n w0 ok0 own0 β' f' L' p' a' w'->Keep o.dst.toList β a β' a'->Tr L β w L' β' w'->(q=true->Stay w w')->K f' L' p'->Ka a' w'):o.wp P a w Ka Q:=by
 obtain⟨is,h⟩:=h
 obtain⟨ss',f',L',p',h',hs',ht,hr'⟩:=pu is hs hargs h
 exact tV (q:=q) hn hs' hr' hrun h' fun β2 f2 L2 p2 a2 w2 h1 h2 h3 h4 h5=>hK β2 f2 L2 p2 a2 w2 h1 h2 (ht.trans h3) h4 h5
end
end Go.Dv
namespace Go.Dv
open Go Go.RowKit
open Go.Vc (vis aJ CellF RowF ValsF D inN d6 callable aM Stay Sw j1 guardSlot arr1 arr2 map1 map2 dP)
variable [Out]
section
variable {P:Program} {n:Nat} {w0:World} {ok0 own0:Nat->Prop} {β:Nat->Option Nat} {f:Rg} {L:Ob} {p:Po} {a:Act} {w:World}
 {K:K0} {Ka:Act->World->Prop} {Q:Exit->Act->World->Prop}
def Du (q:Bool) (o:Oper):Bool:=
 match o.op with
 |.store .. => true
 |.call c=>(match c.callee with | .builtin .append=>true | .value _=>!q|_=>false)
 |_=>false
abbrev GC (P:Program) (n:Nat) (w0:World) (ok0 own0:Nat->Prop) (β:Nat->Option Nat) (L:Ob) (a:Act) (w:World) (ds:List Nat) (e:Bool) (K:K0) (Ka:Act->World->Prop):Prop:=
 ∀ β' f' L' p' a' w',Sim P n w0 ok0 own0 β' f' L' p' a' w'->Keep ds β a β' a'->Tr L β w L' β' w'->(e=false->Stay w w')->K f' L' p'->Ka a' w'
theorem RelA.append {ok:Nat->Prop}:∀ {xs ys:List S} {vs us:List Value},RelA P w β ok xs vs->RelA P w β ok ys us->RelA P w β ok (xs++ys) (vs++us)
 | [],_,[],_,_,h=>h
 |_::_,_,_::_,_,h,k=>⟨h.1,RelA.append h.2 k⟩
 | [],_,_::_,_,h,_=>h.elim
 |_::_,_,[],_,h,_=>h.elim
theorem RelA.ptrs {ok:Nat->Prop}:∀ {is:List Nat} {vs:List Value},Ptrs β is vs->RelA P w β ok (is.map fun i=>.c (.p i 0)) vs
 | [],[],_=>trivial
 |_::_,_::_,h=>⟨h.1,RelA.ptrs h.2⟩
 | [],_::_,h=>h.elim
 |_::_,[],h=>h.elim
theorem RelA.evs (hs:Sim P n w0 ok0 own0 β f L p a w):∀ {xs:List Operand},xs.all fD=true->RelA P w β (okB w0 ok0 L β) (xs.map (ev f)) (xs.map a.eval)
 | [],_=>trivial
 |x::r,h=>by
  simp only[List.all_cons,Bool.and_eq_true] at h
  exact⟨bC hs h.1,RelA.evs hs h.2⟩
theorem kP {q:Bool} {o:Oper} (hn:n<=9000) (hok:cr o=true) (hs:Sim P n w0 ok0 own0 β f L p a w) (h:gZ (CallQ q P) P n o K f L p)
 (hK:GC P n w0 ok0 own0 β L a w o.dst.toList (Du q o) K Ka):o.wp P a w Ka Q:=by
 have hKS:tm P n w0 ok0 own0 β L a w o.dst.toList K Ka:=fun β' f' L' p' a' w' h1 h2 h3 h4 h5=>hK β' f' L' p' a' w' h1 h2 h3 (fun _=>h4) h5
 have hn':n<=10000:=by omega
 by_cases ht:tE o=true
 ·obtain⟨x,v,hr,hv,hk⟩:=wZ hok hs h ht
  exact aM (hr w fun _=>Stay.refl w) (hK _ _ _ _ _ _ (hs.put o.dst hv) (iJ a o.dst v) (Tr.refl _ _ _) (fun _=>Stay.refl w) hk)
 ·cases ho:o.op<;>simp only[tE,ho,not_true_eq_false] at ht
  case alloc t=>exact vB ho hn' hs h hKS
  case box t x=>exact Ae ho hok hn' hs h hKS
  case buildSlice T len ps=>exact nU ho hok hn' hs h hKS
  case makeSlice T l c=>exact pm ho hok hn' hs h hKS
  case store t x y=>
   refine vC ho hok hs h fun β' f' L' p' a' w' h1 h2 h3 h4=>hK β' f' L' p' a' w' h1 h2 h3 (fun e=>?_) h4
   simp [Du,ho] at e
  case call c=>
   have hok':=hok
   simp only[cr,Op.operands,ho] at hok'
   simp only[gZ,ho] at h
   split at h
   ·rename_i g hg
    split at h
    case h_2=>exact h.elim
    rename_i gid fs cs hev
    have hgo:fD g=true/\c.args.toList.all fD=true:=by
     simp only[Call.operands,hg] at hok'
     simpa using hok'
    have hgr:=bC hs hgo.1
    rw[hev] at hgr
    obtain⟨va,vb,hge,hpa,hpb⟩:=hgr
    have hargs:=(RelA.ptrs (P:=P) (w:=w) (ok:=okB w0 ok0 L β) hpa).append ((RelA.evs hs hgo.2).append (RelA.ptrs hpb))
    rw[<-bw] at hargs
    refine vF hn hs hargs (fun hc=>?_) h fun β' f' L' p' a' w' h1 h2 h3 h4 h5=>hK β' f' L' p' a' w' h1 h2 h3 (fun e=>h4 ?_) h5
    ·have he:va.toArray++c.args.map a.eval++vb.toArray=(va++(c.args.toList.map a.eval++vb)).toArray:=by
      rw[<-Array.toList_map];simp
     rw[<-he]
     simp [execOp,ho,resolve,hg,hge,Deferred.ofValue,invoke,dP hc]
    ·simpa [Du,ho,hg] using e
   ·rename_i hg;simp [hg] at ht
   ·rename_i hg;simp [hg] at ht
   ·rename_i hg;simp [hg] at ht
   ·rename_i hg
    split at h
    case h_2=>exact h.elim
    rename_i sv tv T U hargs hTU
    obtain⟨hTU',hzo,h⟩:=h
    have hdU:∃dU,P.underlying U=some dU/\∀k,dU ≠ .int k:=by
     rcases hTU' with rfl|hl
     ·unfold md at h
      split at h
      ·exact h.elim
      ·rename_i e sz by' hel
       exact⟨_,(Go.Vc.elemS_spec hel).1,fun k e=>by cases e⟩
     ·unfold Go.Vc.lenK at hl
      split at hl
      ·cases hl
      ·rename_i hu;exact⟨_,hu,fun k e=>by cases e⟩
      ·cases hl
    obtain⟨dU,hU,hUd⟩:=hdU
    obtain⟨x,y,hxy,rfl,rfl⟩:=map2 hargs
    have ha:=arr2 hxy
    have hT:=arr2 hTU
    have hc:c={ callee:=.builtin .append,args:=#[x,y],argTypes:=#[T,U] }:=by
     obtain⟨c1,c2,c3⟩:=c
     simp only at hg ha hT;subst hg ha hT;rfl
    simp only[Call.operands,hg,ha] at hok'
    have hxo:fD x=true/\fD y=true:=by simpa using hok'
    rw[hc] at ho
    refine tK ho hU hUd hxo.1 hxo.2 hn' hs (fun e sz by' he=>?_) h fun β' f' L' p' a' w' h1 h2 h3 h4=>hK β' f' L' p' a' w' h1 h2 h3 (fun e=>by simp [Du,ho] at e) h4
    unfold Go.Vc.zeroOk at hzo
    rw[he] at hzo
    exact Option.isSome_iff_exists.1 hzo
   ·exact h.elim
  all_goals (first|(simp only[gZ,ho] at h;done)|(simp only[gZ,ho] at h;exact h.elim)|(exact absurd h (by simp [gZ,ho])))
def bL (P:Program) (t:TypeId):Option TypeId:=
 match P.underlying t with
 | some (.slice e)=>(match P.underlying e,P.info? e with
  |some (.int .u8),some i=>if i.size=1 then some e else none
  | _,_=>none)
 |_=>none
theorem rM {t e:TypeId} (h:bL P t=some e):P.underlying t=some (.slice e)/\P.underlying e=some (.int .u8)/\∃i,P.info? e=some i/\i.size=1:=by
 unfold bL at h
 split at h
 ·rename_i e' hu
  split at h
  ·rename_i i h1 h2
   split at h
   ·rename_i h3;injection h with h;subst h;exact⟨hu,h1,i,h2,h3⟩
   ·cases h
  ·cases h
 ·cases h
theorem vG {o:Oper} {s t e:TypeId} {x:Operand} {u:ByteArray} (ho:o.op = .convert s t x) (hok:cr o=true) (hn:n<=10000) (hs:Sim P n w0 ok0 own0 β f L p a w) (hb:bL P t=some e) (hx:ev f x = .c (.v (.string u)))
 (hl:Go.Vc.lenK P s=2) (h:dq n o.dst [] (.arr e u.size (bS u.data.toList) none) (fun d=>.s d u.size) K f L p) (hK:tm P n w0 ok0 own0 β L a w o.dst.toList K Ka):o.wp P a w Ka Q:=by
 obtain⟨h1,h2,i,h3,h4⟩:=rM hb
 have hxr:=bC hs (x:=x) (by simpa [cr,Op.operands,ho] using hok)
 rw[hx] at hxr
 obtain⟨hxe,hu⟩:=hxr
 have hu:u.size<=maxLen:=hu
 have hsu:P.underlying s=some .string:=by
  unfold Go.Vc.lenK at hl
  split at hl
  ·cases hl
  ·assumption
  ·cases hl
 have hr:(execOp a.eval o).run P w = .ok (.value (.slice (some ⟨w.heap.size,0,none⟩) u.size (grownCap w u.size 0 e))) (Lib.bytesWorld w e u):=by
  have:=Lib.run_convert_string_bytes (P:=P) w s t e u hsu h1 h2
  simp [execOp,ho,hxe,this]
 have hnew:=Lib.bytesWorld_at_new w e u
 have hcap:=grownCap_ge w u.size 0 e
 have hsz:(Lib.bytesCells w e u).size=grownCap w u.size 0 e:=by
  have:u.data.size=u.size:=rfl
  simp [Lib.bytesCells,this];omega
 refine ld (mk:=fun d=>.s d u.size) hn hs hr (by rw[Lib.bytesWorld_size];omega) (fun b hb=>Lib.bytesWorld_at_old w e u b hb) hnew ?_ (fun d _ hβ hst=>?_) (fun d _ ok'=>?_) h hK
 ·refine⟨?_,?_,?_⟩<;>simp [Lib.bytesWorld,World.freeze,World.alloc,World.drew,-World.alloc_eq,-World.drew_eq]
 ·refine mj (sz:=1) (F:=none) (hd:=Lib.strCells u) (G:=[]) (junk:=List.replicate (grownCap w u.size 0 e-u.size) (.int .u8 0)) h3 h4 hst (nD w u) (by simp) (fun Fs e=>by cases e) (fun e=>absurd rfl e) (by simp) hnew (Lh.of_le (Nat.le_refl _)) (by simp [Lib.bytesCells,Lib.strCells]) ?_
  simp [bS]
 ·show OwnS P _ (if d=d then some w.heap.size else β d) u.size _
  rw[if_pos rfl]
  refine⟨grownCap w u.size 0 e,_,e,_,rfl,hcap,grownCap_le_maxLen w u.size 0 e hu,hnew,fun s hss=>?_⟩
  simp only[h3,Option.map_some,Option.some.injEq] at hss
  rw[hsz,<-hss,h4];omega
def rN (CT:CallT) (P:Program) (n:Nat) (o:Oper) (K:K0):K0:=fun f L p=>
 match o.op with
 | .slice _ x _ _ _=>(match Et (ev f x) with
  |some i=>frz i (fun _ _=>gZ CT P n o K) f L p
  | none=>gZ CT P n o K f L p)
 | .convert s t x=>(match bL P t,ev f x with
  |some e,.c (.v (.string u))=>Go.Vc.lenK P s=2/\dq n o.dst [] (.arr e u.size (bS u.data.toList) none) (fun d=>.s d u.size) K f L p
  | _,_=>gZ CT P n o K f L p)
 |_=>gZ CT P n o K f L p
theorem pw {q:Bool} {o:Oper} (hn:n<=9000) (hok:cr o=true) (hs:Sim P n w0 ok0 own0 β f L p a w) (h:rN (CallQ q P) P n o K f L p)
 (hK:GC P n w0 ok0 own0 β L a w o.dst.toList (Du q o) K Ka):o.wp P a w Ka Q:=by
 unfold rN at h
 split at h
 ·split at h
  ·obtain⟨m,x,f',L',p',hk,hs',ht,_⟩:=kM hs h
   exact kP hn hok hs' hk fun β' f' L' p' a' w' h1 h2 h3 h4 h5=>hK β' f' L' p' a' w' h1 h2 (ht.trans h3) h4 h5
  ·exact kP hn hok hs h hK
 ·rename_i ho
  split at h
  ·rename_i hb hx
   refine vG ho hok aa hs hb hx h.1 h.2 fun β' f' L' p' a' w' h1 h2 h3 h4 h5=>hK β' f' L' p' a' w' h1 h2 h3 (fun _=>h4) h5
  ·exact kP hn hok hs h hK
 ·exact kP hn hok hs h hK
def dl (P:Program) (n:Nat) (ops:Array Oper) (K:K0):List Oper->K0
 | []=>K
 |o::r=>fun f L p=>
  match o.guard with
  |none=>rN (po P) P n o (dl P n ops K r) f L p
  |some (j,want)=>match guardSlot ops j with
   |none=>False
   |some g=>match f g with
    |.c (.v (.bool b))=>(b=want->rN (po P) P n o (dl P n ops K r) (dT f g (.c (.v (.bool want)))) L p) /\
     (b=(!want)->dl P n ops K r (put n (dT f g (.c (.v (.bool !want)))) o.dst (.tu [])) L p)
    |.tu []=>dl P n ops K r (put n f o.dst (.tu [])) L p
    |_=>False
def fQ (n:Nat) (ops:Array Oper) (o:Oper) (step:K0->K0) (K:K0):K0:=fun f L p=>
 match o.guard with
 |none=>step K f L p
 |some (j,want)=>match guardSlot ops j with
  |none=>False
  |some g=>match f g with
   |.c (.v (.bool b))=>(b=want->step K (dT f g (.c (.v (.bool want)))) L p) /\
    (b=(!want)->K (put n (dT f g (.c (.v (.bool !want)))) o.dst (.tu [])) L p)
   |.tu []=>K (put n f o.dst (.tu [])) L p
   |_=>False
theorem Cj {P:Program} {n:Nat} {ops:Array Oper} {K:K0} {o:Oper} {r:List Oper} {f:Rg} {L:Ob} {p:Po}:dl P n ops K (o::r) f L p=fQ n ops o (rN (po P) P n o) (dl P n ops K r) f L p:=rfl
theorem Sim.refine_slot (h:Sim P n w0 ok0 own0 β f L p a w) {g:Nat} {x:S} (hx:RelS P w β (okB w0 ok0 L β) x (a.tmps.getD g undef)):Sim P n w0 ok0 own0 β (dT f g x) L p a w:=
 ⟨h.size,h.defers,fun i=>by simp only[dT];split<;>first|(rename_i e;subst e;exact hx)|exact h.slots i,h.objs,h.inj,h.old,h.sub,h.frame,h.wd,h.outer,h.pool⟩
variable {ops:Array Oper}
theorem jg {o:Oper} {step:K0->K0} (hs:Sim P n w0 ok0 own0 β f L p a w) (h:fQ n ops o step K f L p) :
 (Region.wanted o (yielded ops a.tmps)=true/\∃f1,Sim P n w0 ok0 own0 β f1 L p a w/\step K f1 L p) ∨
 (Region.wanted o (yielded ops a.tmps)=false/\∃f1,Sim P n w0 ok0 own0 β f1 L p a w/\K (put n f1 o.dst (.tu [])) L p):=by
 unfold fQ at h
 split at h
 ·rename_i hg
  exact .inl ⟨by simp [Region.wanted,hg],f,hs,h⟩
 ·rename_i j want hg
  split at h
  ·exact h.elim
  ·rename_i g hgs
   have hslot:=hs.slots g
   have hyl:∀b,a.tmps.getD g undef = .bool b->yielded ops a.tmps j=some b:=fun b hb=>by
    unfold guardSlot at hgs
    simp only[yielded,hgs,Option.bind_some]
    have:a.tmps[g]?=some (.bool b):=by
     rw[Array.getD_eq_getD_getElem?] at hb
     cases hq:a.tmps[g]? with
     |none=>simp [hq,undef] at hb
     |some q=>simp [hq] at hb;rw[hb]
    rw[this]
   split at h
   ·rename_i b hb
    rw[hb] at hslot
    obtain⟨hslot,_⟩:=hslot
    have hy:=hyl b hslot
    by_cases hbw:b=want
    ·subst hbw
     exact .inl ⟨by simp [Region.wanted,hg,hy],_,hs.refine_slot (x:=.c (.v (.bool b))) ⟨hslot,trivial⟩,h.1 rfl⟩
    ·have hbn:b = !want:=by cases b<;>cases want<;>simp_all
     subst hbn
     exact .inr ⟨by simp [Region.wanted,hg,hy],_,hs.refine_slot (x:=.c (.v (.bool !want))) ⟨hslot,trivial⟩,h.2 rfl⟩
   ·rename_i hb
    rw[hb] at hslot
    obtain⟨ys,hslot,_⟩:=hslot
    have hy:yielded ops a.tmps j=none:=by
     unfold guardSlot at hgs
     simp only[yielded,hgs,Option.bind_some]
     rw[Array.getD_eq_getD_getElem?] at hslot
     cases hq:a.tmps[g]? with
     |none=>rfl
     |some q=>simp [hq] at hslot;subst hslot;rfl
    exact .inr ⟨by simp [Region.wanted,hg,hy],f,hs,h⟩
   ·exact h.elim
theorem kQ {ok:Nat->Prop}:RelS P w β ok (.tu []) undef:=⟨[],rfl,trivial⟩
def Dw (l:List Oper):Bool:=l.all cr
theorem tW (hn:n<=9000):∀(l:List Oper) {β:Nat->Option Nat} {f:Rg} {L:Ob} {p:Po} {a:Act} {w:World},Dw l=true->Sim P n w0 ok0 own0 β f L p a w->dl P n ops K l f L p ->
 Eo P n w0 ok0 own0 β L a w (Go.Vc.dstsOps l) K (Q .normal)->wpList P ops Q l a w
 | [],β,f,L,p,a,w,_,hs,h,hK=>hK _ _ _ _ _ _ hs (Keep.refl _ _ _) (Tr.refl _ _ _) h
 |o::r,β,f,L,p,a,w,hok,hs,h,hK=>by
  simp only[Dw,List.all_cons,Bool.and_eq_true] at hok
  rw[Cj] at h
  have step:∀ {β' f' L' p' a' w'},Sim P n w0 ok0 own0 β' f' L' p' a' w'->Keep o.dst.toList β a β' a'->Tr L β w L' β' w'->dl P n ops K r f' L' p'->wpList P ops Q r a' w':=fun hs' hk ht h'=>
   tW hn r hok.2 hs' h' fun _ _ _ _ _ _ hs'' hk' ht' h''=>hK _ _ _ _ _ _ hs'' ((hk.trans hk').mono fun j hj=>by
    simp only[Go.Vc.dstsOps]
    cases hd:o.dst with
    |none=>simpa [hd] using hj
    | some d=>simpa [hd] using hj) (ht.trans ht') h''
  unfold wpList
  rcases jg hs h with⟨hw,f1,hs1,h1⟩|⟨hw,f1,hs1,h1⟩
  ·rw[if_pos hw];exact .inl (pw (q:=false) hn hok.1 hs1 h1 fun β' f' L' p' a' w' q1 q2 q3 _ q5=>step q1 q2 q3 q5)
  ·rw[if_neg (by simp [hw])];exact step (hs1.put o.dst kQ) (iJ _ _ _) (Tr.refl _ _ _) h1
end
end Go.Dv
namespace Go.Dv
open Go Go.RowKit
open Go.Vc (vis aJ CellF RowF ValsF D inN d6 callable aM Stay Sw j1 guardSlot Plan desc inX dV ge fq Closed dstsOps my eM)
variable [Out]
def Ar (xs:List Nat) (o:Oper):Bool:=
 (match o.op with
 |.store .. => true
 |.call c=>(match c.callee with | .builtin .append=>true|_=>false)
 | _=>false)||inX xs o
def xk (ops:Array Oper) (xs:List Nat) (listed:Array Bool) (i:Nat):Bool:=
 match ops[i]? with
 |none=>false
 |some oi=>tE oi&&(!j1 oi||(List.range ops.size).all fun j=>listed.getD j true||(match ops[j]? with|some oj=>!Ar xs oj|none=>true)||desc ops i ops.size j)
def d9 (ops:Array Oper) (xs:List Nat):Nat->Array Bool->Bool->Plan->Bool
 |_,listed,top,.done=>top&&(Region.ready .any ops listed).isEmpty
 |_,_,top,.nobr=>!top
 |fuel,listed,top,.take i p=>decide (0<fuel)&&top&&(Region.ready .any ops listed).contains i&&Region.free .any ops listed i&&xk ops xs listed i&&d9 ops xs (fuel-1) (listed.setIfInBounds i true) true p
 |fuel,listed,top,.br i p q=>decide (0<fuel)&&(!top||(Region.ready .any ops listed==i::q.heads))&&d9 ops xs (fuel-1) (listed.setIfInBounds i true) true p&&d9 ops xs fuel listed false q
def eC (P:Program) (n:Nat) (ops:Array Oper) (xs:List Nat) (K:K0):Plan->K0
 |.done=>K
 |.nobr=>fun _ _ _=>True
 |.take i p=>fun f L q=>match ops[i]? with
  |some o=>fQ n ops o (gZ (po P) P n o) (eC P n ops xs K p) f L q
  |none=>False
 | .br i p r=>fun f L q=>(match ops[i]? with
  |some o=>fQ n ops o (rN (CallQ (!inX xs o) P) P n o) (eC P n ops xs K p) f L q
  | none=>False)/\eC P n ops xs K r f L q
def At (ops:Array Oper):Bool:=ops.toList.all cr
def dDrawn (P:Program) (n:Nat) (ops:Array Oper) (K:K0):K0:=fun f L q=>
 Region.noSelect ops=true/\∃(xs:List Nat) (p:Plan),d9 ops xs ops.size (Array.replicate ops.size false) true p=true/\eC P n ops xs K p f L q
section
variable {P:Program} {n:Nat} {w0:World} {ok0 own0:Nat->Prop} {β:Nat->Option Nat} {f:Rg} {L:Ob} {p:Po} {a:Act} {w:World}
 {K:K0} {Q:Exit->Act->World->Prop} {ops:Array Oper} {xs:List Nat}
theorem Ex {o:Oper} (h:Du (!inX xs o) o=true):Ar xs o=true:=by
 unfold Du at h
 unfold Ar
 cases ho:o.op<;>simp only[ho] at h ⊢ <;> first|rfl|cases h|skip
 split at h
 ·rename_i hc;simp [hc]
 ·rename_i hc;simp [hc];simpa using h
 ·cases h
theorem tX (hn:n<=9000) (hoks:At ops=true) (hsel:Region.noSelect ops=true) (hQ:∀c a w,¬Q (.panic c) a w):∀(r:Plan),
 (∀(fuel:Nat) (listed:Array Bool) {β:Nat->Option Nat} {f:Rg} {L:Ob} {p:Po} {a:Act} {w:World},d9 ops xs fuel listed true r=true->Closed ops listed ->
   Sim P n w0 ok0 own0 β f L p a w->eC P n ops xs K r f L p->Eo P n w0 ok0 own0 β L a w (dstsOps ops.toList) K (Q .normal)->dV P ops (Ar xs) Q fuel listed a w) /\
 (∀(fuel:Nat) (listed:Array Bool) {β:Nat->Option Nat} {f:Rg} {L:Ob} {p:Po} {a:Act} {w:World},d9 ops xs fuel listed false r=true->Closed ops listed ->
   (∀i∈r.heads,i∈Region.ready .any ops listed) ->
   Sim P n w0 ok0 own0 β f L p a w->eC P n ops xs K r f L p->Eo P n w0 ok0 own0 β L a w (dstsOps ops.toList) K (Q .normal)->∀i∈r.heads,
    0<fuel/\wpOp P ops Q i (fun a' w'=>((∃o,ops[i]?=some o/\Ar xs o=true)∨Stay w w')/\dV P ops (Ar xs) Q (fuel-1) (listed.setIfInBounds i true) a' w') a w):=by
 have hoko:∀ {i o},ops[i]?=some o->cr o=true:=fun {i o} ho=>List.all_eq_true.1 hoks o (by
  have:=List.mem_of_getElem? (l:=ops.toList) (i:=i) (a:=o) (by simpa using ho)
  exact this)
 intro r
 induction r with
 |done=>
  refine⟨fun fuel listed β f L p a w hp hc hs h hK=>?_,fun fuel listed β f L p a w hp=>by simp [d9] at hp⟩
  simp only[d9,Bool.true_and,List.isEmpty_iff] at hp
  have hq:Q .normal a w:=hK _ _ _ _ _ _ hs (Keep.refl _ _ _) (Tr.refl _ _ _) h
  cases fuel with
  |zero=>exact⟨hp,hq⟩
  |succ k=>exact⟨fun _=>hq,by rw[hp];simp⟩
 |nobr=>exact⟨fun fuel listed β f L p a w hp=>by simp [d9] at hp,fun fuel listed β f L p a w hp hc hr hs h hK i hi=>by simp [Plan.heads] at hi⟩
 |take i r ih=>
  refine⟨fun fuel listed β f L p a w hp hc hs h hK=>?_,fun fuel listed β f L p a w hp=>by simp [d9] at hp⟩
  simp only[d9,Bool.and_eq_true,decide_eq_true_eq] at hp
  obtain⟨⟨⟨⟨⟨hfu,_⟩,hr⟩,hfree⟩,hok⟩,hp⟩:=hp
  have hr:i∈Region.ready .any ops listed:=by simpa using hr
  obtain⟨k,rfl⟩:∃k,fuel=k+1:=⟨fuel-1,aa⟩
  simp only[Nat.add_sub_cancel] at hp
  unfold eC at h
  split at h
  case h_2=>exact h.elim
  rename_i o ho
  unfold xk at hok
  simp only[ho,Bool.and_eq_true] at hok
  obtain⟨htake,hok⟩:=hok
  have hex:j1 o=true->∀j oj,ops[j]?=some oj->listed.getD j true=false->Ar xs oj=true->desc ops i ops.size j=true:=fun hl j oj hj hun hx=>by
   simp only[hl,Bool.not_true,Bool.false_or,List.all_eq_true,List.mem_range] at hok
   have:=hok j (Array.getElem?_eq_some_iff.1 hj).1
   simpa [hun,hj,hx] using this
  have go:∀ {x:S} {v:Value} {f1:Rg},Sim P n w0 ok0 own0 β f1 L p a w->YieldsIf P ops (Sw o w) o v a->RelS P w β (okB w0 ok0 L β) x v->eC P n ops xs K r (put n f1 o.dst x) L p->dV P ops (Ar xs) Q (k+1) listed a w:=by
   intro x v f1 hs1 hy hcx hk
   refine ge ho (Region.noSelect_spec hsel) (fun c a w hq=>(hQ _ _ _ hq).elim) k listed a w hc (Region.free_spec ho hfree) hex hr hy ?_
   refine ih.1 k _ hp (hc.set hr) (hs1.put o.dst hcx) hk fun β' f' L' p' a' w' hs' hk' ht' h'=>hK _ _ _ _ _ _ hs' (((iJ a o.dst v).trans hk').mono fun j hj=>?_) ht' h'
   rcases List.mem_append.1 hj with hj|hj
   ·exact my ho j hj
   ·exact hj
  rcases jg hs h with⟨hw,f1,hs1,h1⟩|⟨hw,f1,hs1,h1⟩
  ·obtain⟨x,v,hrun,hcx,hk⟩:=wZ (hoko ho) hs1 h1 htake
   exact go hs1 (.inl ⟨hw,hrun⟩) hcx hk
  ·exact go (x:=.tu []) hs1 (.inr ⟨hw,rfl⟩) kQ h1
 |br i r q ihp ihq=>
  have main:∀(fuel:Nat) (listed:Array Bool) {β:Nat->Option Nat} {f:Rg} {L:Ob} {p:Po} {a:Act} {w:World},0<fuel->d9 ops xs (fuel-1) (listed.setIfInBounds i true) true r=true->Closed ops listed ->
   i∈Region.ready .any ops listed->Sim P n w0 ok0 own0 β f L p a w->eC P n ops xs K (.br i r q) f L p->Eo P n w0 ok0 own0 β L a w (dstsOps ops.toList) K (Q .normal) ->
   wpOp P ops Q i (fun a' w'=>((∃o,ops[i]?=some o/\Ar xs o=true)∨Stay w w')/\dV P ops (Ar xs) Q (fuel-1) (listed.setIfInBounds i true) a' w') a w:=by
   intro fuel listed β f L p a w hfu hp hc hr hs h hK
   obtain⟨h,_⟩:=h
   split at h
   case h_2=>exact h.elim
   rename_i o ho
   unfold wpOp
   simp only[ho]
   have rest:∀ {β':Nat->Option Nat} {f':Rg} {L':Ob} {p':Po} {a':Act} {w':World},Sim P n w0 ok0 own0 β' f' L' p' a' w'->Keep o.dst.toList β a β' a'->Tr L β w L' β' w'->eC P n ops xs K r f' L' p'->dV P ops (Ar xs) Q (fuel-1) (listed.setIfInBounds i true) a' w':=by
    intro β' f' L' p' a' w' hs' hk' ht' h'
    refine ihp.1 (fuel-1) _ hp (hc.set hr) hs' h' fun β'' f'' L'' p'' a'' w'' hs'' hk'' ht'' h''=>hK _ _ _ _ _ _ hs'' ((hk'.trans hk'').mono fun j hj=>?_) (ht'.trans ht'') h''
    rcases List.mem_append.1 hj with hj|hj
    ·exact my ho j hj
    ·exact hj
   rcases jg hs h with⟨hw,f1,hs1,h1⟩|⟨hw,f1,hs1,h1⟩
   ·simp only[hw,if_true]
    refine .inl (pw hn (hoko ho) hs1 h1 fun β' f' L' p' a' w' q1 q2 q3 q4 q5=>⟨?_,rest q1 q2 q3 q5⟩)
    cases he:Du (!inX xs o) o with
    |true=>exact .inl ⟨o,rfl,Ex he⟩
    |false=>exact .inr (q4 he)
   ·simp only[hw,Bool.false_eq_true,if_false]
    exact⟨.inr (Stay.refl w),rest (hs1.put o.dst kQ) (iJ a o.dst undef) (Tr.refl _ _ _) h1⟩
  refine⟨fun fuel listed β f L p a w hp hc hs h hK=>?_,fun fuel listed β f L p a w hp hc hr hs h hK j hj=>?_⟩
  ·simp only[d9,Bool.and_eq_true,decide_eq_true_eq,Bool.not_true,Bool.false_or,beq_iff_eq] at hp
   obtain⟨⟨⟨hfu,hready⟩,hp⟩,hq⟩:=hp
   have hin:i∈Region.ready .any ops listed:=by rw[hready];simp
   obtain⟨k,rfl⟩:∃k,fuel=k+1:=⟨fuel-1,aa⟩
   refine⟨fun h0=>(by rw[h0] at hready;cases hready),fun j hj=>?_⟩
   rw[hready] at hj
   rcases List.mem_cons.1 hj with rfl|hj
   ·have:=main (k+1) listed hfu hp hc hin hs h hK
    simpa using this
   ·have:=(ihq.2 (k+1) listed hq hc (fun j hj=>by rw[hready];simp [hj]) hs h.2 hK j hj).2
    simpa using this
  ·simp only[d9,Bool.and_eq_true,decide_eq_true_eq,Bool.not_false,Bool.true_or,and_true] at hp
   obtain⟨⟨hfu,hp⟩,hq⟩:=hp
   simp only[Plan.heads] at hj hr
   rcases List.mem_cons.1 hj with rfl|hj
   ·exact⟨hfu,main fuel listed hfu hp hc (hr j (by simp)) hs h hK⟩
   ·exact ihq.2 fuel listed hq hc (fun j hj=>hr j (by simp [hj])) hs h.2 hK j hj
end
end Go.Dv
namespace Go.Dv
open Go Go.RowKit
open Go.Vc (vis aJ CellF RowF ValsF D inN d6 Stay)
variable [Out]
inductive Gh where
 |ren (i j:Nat)
 |virt (s j:Nat) (ty:TypeId)
 |virtC (i off j:Nat) (ty:TypeId)
def yq (i j:Nat):List Nat->List Nat
 | []=>[]
 |k::r=>(if k=i then j else k)::yq i j r
def nV (i j:Nat):C->C
 |.p k o=>if k=i then .p j o else .p k o
 |.s k m=>if k=i then .s j m else .s k m
 |.fn g a b=>.fn g (yq i j a) (yq i j b)
 |x=>x
def iR (i j:Nat):List C->List C
 | []=>[]
 |x::r=>nV i j x::iR i j r
def tY (i j:Nat):List (List C×Bool)->List (List C×Bool)
 | []=>[]
 |(cs,b)::r=>(iR i j cs,b)::tY i j r
def yr (i j:Nat):S->S
 |.c x=>.c (nV i j x)
 |.ag cs=>.ag (iR i j cs)
 |.tu xs=>.tu (tY i j xs)
def Au (i j:Nat):O->O
 |.str cs=>.str (iR i j cs)
 |.arr t m ds F=>.arr t m ds F
def px (i j:Nat):Ob->Ob
 | []=>[]
 |(k,b)::r=>(if k=i then j else k,Au i j b)::px i j r
def Ey (i j:Nat) (f:Rg):Rg:=fun s=>yr i j (f s)
def py (ws:List Nat):List Gh->(Rg->Ob->Prop)->Rg->Ob->Prop
 | [],k,f,L=>k f L
 |.ren i j::r,k,f,L=>i≠j/\inN ws (fam j)=true/\py ws r k (Ey i j (kR [] [j] f)) (px i j (kL [] [j] L))
 |.virt s j ty::r,k,f,L=>(match kS [] [j] (f s) with | .c (.v (.slice none 0 0))=>True|_=>False)/\inN ws (fam j)=true/\py ws r k (dT (kR [] [j] f) s (.c (.s j 0))) ((j,.arr ty 0 [] (some []))::kL [] [j] L)
 | .virtC i off j ty::r,k,f,L=>inN ws (fam j)=true/\(match look ((j,.arr ty 0 [] (some []))::kL [] [j] L) i with
  | some (.str cs)=>(match cs[off]? with
   |some (.v (.slice none 0 0))=>py ws r k (kR [] [j] f) (iH ((j,.arr ty 0 [] (some []))::kL [] [j] L) i (.str (cs.set off (.s j 0))))
   | _=>False)
  | _=>False)
section
variable {P:Program} {n:Nat} {w0:World} {ok0 own0:Nat->Prop} {β:Nat->Option Nat} {f:Rg} {L:Ob} {p:Po} {a:Act} {w:World}
theorem Sim.drew (hs:Sim P n w0 ok0 own0 β f L p a w):Sim P n w0 ok0 own0 β f L p a w.drew:=
 ⟨hs.size,hs.defers,fun j=>RelS.st (w:=w) (w':=w.drew) ⟨fun _ _ h=>⟨rfl,h⟩,fun _ cs _ lh hc=>⟨cs,lh,hc,rfl⟩⟩ (hs.slots j),fun j ob hj=>RelO.st (w:=w) (w':=w.drew) ⟨fun _ _ h=>⟨rfl,h⟩,fun _ cs _ lh hc=>⟨cs,lh,hc,rfl⟩⟩ (hs.objs j ob hj) (fun _ _=>rfl),hs.inj,hs.old,hs.sub,hs.frame,hs.wd,hs.outer,hs.pool⟩
theorem cP {ok ok':Nat->Prop} (h:∀b,ok b->ok' b):Stab w w ok ok':=⟨fun b _ hb=>⟨rfl,h b hb⟩,fun _ cs _ lh hc=>⟨cs,lh,hc,rfl⟩⟩
theorem kd {L':Ob} {β':Nat->Option Nat} (h:∀b,ownB L' β' b->ownB L β b):∀b,okB w0 ok0 L β b->okB w0 ok0 L' β' b:=fun _ hb=>⟨fun ho=>hb.1 (h _ ho),hb.2⟩
theorem eL {ds is:List Nat} {L:Ob} {i:Nat} {o:O} (h:look (kL ds is L) i=some o):∃o',look L i=some o'/\bH ds is i=false/\o=kO ds is o':=by
 rw[mb] at h
 split at h
 ·cases h
 ·rename_i hh
  cases hl:look L i with
  |none=>simp [hl] at h
  |some o'=>simp [hl] at h;exact⟨o',rfl,by simpa using hh,h.symm⟩
theorem Sim.kill (hs:Sim P n w0 ok0 own0 β f L p a w) (ds is:List Nat):Sim P n w0 ok0 own0 β (kR ds is f) (kL ds is L) p a w:=by
 have hown:∀b,ownB (kL ds is L) β b->ownB L β b:=fun b ⟨i,o,h1,h2⟩=>by obtain⟨o',h3,_⟩:=eL h1;exact⟨i,o',h3,h2⟩
 have hst:=cP (w:=w) (kd (w0:=w0) (ok0:=ok0) hown)
 refine⟨hs.size,hs.defers,fun i=>(hs.slots i).tr (fun _ _=>rfl) hst,fun i o hl=>?_,fun i j o o' b hi hj=>?_,fun b hb=>hs.old b (hown b hb),hs.sub,hs.frame,hs.wd,hs.outer,fun ps hps=>?_⟩
 ·obtain⟨o',h1,h2,rfl⟩:=eL hl
  exact (hs.objs i o' h1).tr (fun _ _=>rfl) hst h2 fun _ _=>rfl
 ·obtain⟨o1,h1,_⟩:=eL hi
  obtain⟨o2,h2,_⟩:=eL hj
  exact hs.inj i j o1 o2 b h1 h2
 ·obtain⟨h1,h2⟩:=hs.pool ps hps
  exact⟨h1,fun b hb=>⟨(h2 b hb).1,(h2 b hb).2.1,fun ho=>(h2 b hb).2.2 (hown b ho)⟩⟩
def SubO (A B:Ob):Prop:=∀p∈A,look B p.1=some p.2
def PoSub (p q:Po):Prop:=∀qs,q=some qs->∃ps,p=some ps/\Sb qs.flatten ps.flatten
theorem mV:∀ {A:Ob} {i:Nat} {o:O},look A i=some o->(i,o)∈A
 | [],_,_,h=>by simp [look] at h
 |(j,b)::r,i,o,h=>by
  simp only[look] at h
  split at h
  ·rename_i e;injection h with h;subst e h;simp
  ·exact List.mem_cons_of_mem _ (mV h)
theorem SubO.own {A B:Ob} (h:SubO A B) {b:Nat}:ownB A β b->ownB B β b:=fun ⟨i,o,h1,h2⟩=>⟨i,o,h (i,o) (mV h1),h2⟩
theorem Sim.drop (hs:Sim P n w0 ok0 own0 β f L p a w) {L':Ob} {p':Po} (hl:SubO L' L) (hp:PoSub p p'):Sim P n w0 ok0 own0 β f L' p' a w:=by
 have hown:∀b,ownB L' β b->ownB L β b:=fun b=>hl.own
 have hst:=cP (w:=w) (kd (w0:=w0) (ok0:=ok0) hown)
 have hlk:∀i o,look L' i=some o->look L i=some o:=fun i o h=>hl (i,o) (mV h)
 refine⟨hs.size,hs.defers,fun i=>(hs.slots i).st hst,fun i o h=>(hs.objs i o (hlk i o h)).st hst fun _ _=>rfl,fun i j o o' b hi hj=>hs.inj i j o o' b (hlk i o hi) (hlk j o' hj),fun b hb=>hs.old b (hown b hb),hs.sub,hs.frame,hs.wd,hs.outer,fun qs hqs=>?_⟩
 obtain⟨ps,h1,h2⟩:=hp qs hqs
 obtain⟨h3,h4⟩:=hs.pool ps h1
 exact⟨h2.nodup h3,fun b hb=>⟨(h4 b (h2.mem hb)).1,(h4 b (h2.mem hb)).2.1,fun ho=>(h4 b (h2.mem hb)).2.2 (hown b ho)⟩⟩
theorem Tr.drop {L':Ob} (hl:SubO L' L):Tr L β w L' β w:=⟨Nat.le_refl _,fun _ _ _=>rfl,fun _ _ h=>hl.own h,fun _ cs _ lh hc=>⟨cs,lh,hc,rfl⟩⟩
theorem Sim.virt (hs:Sim P n w0 ok0 own0 β f L p a w) {j:Nat} {ty:TypeId} {F:Fp} :
 Sim P n w0 ok0 own0 (fun k=>if k=j then none else β k) (kR [] [j] f) ((j,.arr ty 0 [] F)::kL [] [j] L) p a w/\Tr L β w ((j,.arr ty 0 [] F)::kL [] [j] L) (fun k=>if k=j then none else β k) w:=by
 have hk:=hs.kill [] [j]
 have hβ:∀k,bH [] [j] k=false->(fun k=>if k=j then none else β k) k=β k:=fun k h=>by
  have:¬k=j:=fun e=>by subst e;simp [bH,inN] at h
  simp [this]
 have hcase:∀i o,look ((j,O.arr ty 0 [] F)::kL [] [j] L) i=some o->(i=j/\o = .arr ty 0 [] F)∨(i≠j/\∃o',look L i=some o'/\bH [] [j] i=false/\o=kO [] [j] o'):=fun i o h=>by
  simp only[look] at h
  split at h
  ·rename_i e;injection h with h;exact .inl ⟨e.symm,h.symm⟩
  ·rename_i e;exact .inr ⟨fun e'=>e e'.symm,eL h⟩
 have hown:∀b,ownB ((j,O.arr ty 0 [] F)::kL [] [j] L) (fun k=>if k=j then none else β k) b->ownB L β b:=by
  rintro b ⟨i,o,h1,h2⟩
  rcases hcase i o h1 with⟨rfl,_⟩|⟨hne,o',h3,_⟩
  ·simp at h2
  ·exact⟨i,o',h3,by simpa [hne] using h2⟩
 have hst:=cP (w:=w) (kd (w0:=w0) (ok0:=ok0) hown)
 refine⟨⟨hs.size,hs.defers,fun i=>(hs.slots i).tr hβ hst,fun i o hl=>?_,fun i k o o' b hi hj hbi hbj=>?_,fun b hb=>hs.old b (hown b hb),hs.sub,hs.frame,hs.wd,hs.outer,fun ps hps=>?_⟩,⟨Nat.le_refl _,fun _ _ _=>rfl,fun b _ h=>hown b h,fun _ cs _ lh hc=>⟨cs,lh,hc,rfl⟩⟩⟩
 ·rcases hcase i o hl with⟨rfl,rfl⟩|⟨_,o',h3,h4,rfl⟩
  ·exact .inl ⟨by simp,rfl,rfl⟩
  ·exact (hs.objs i o' h3).tr hβ hst h4 fun _ _=>rfl
 ·rcases hcase i o hi with⟨rfl,_⟩|⟨h1,o1,h3,_⟩
  ·simp at hbi
  ·rcases hcase k o' hj with⟨rfl,_⟩|⟨h2,o2,h4,_⟩
   ·simp at hbj
   ·exact hs.inj i k o1 o2 b h3 h4 (by simpa [h1] using hbi) (by simpa [h2] using hbj)
 ·obtain⟨h1,h2⟩:=hs.pool ps hps
  exact⟨h1,fun b hb=>⟨(h2 b hb).1,(h2 b hb).2.1,fun ho=>(h2 b hb).2.2 (hown b ho)⟩⟩
section
variable {i j:Nat} {ok:Nat->Prop}
theorem pz:∀ {l:List Nat} {vs:List Value},nS [] [j] l=false->Ptrs β l vs->Ptrs (fun k=>if k=j then β i else β k) (yq i j l) vs
 | [],[],_,_=>trivial
 |k::r,v::t,h,hp=>by
  simp only[nS,Bool.or_eq_false_iff] at h
  have hkj:¬k=j:=fun e=>by subst e;simp [bH,inN] at h
  refine⟨?_,pz h.2 hp.2⟩
  obtain⟨b,h1,h2⟩:=hp.1
  by_cases e:k=i
  ·subst e;exact⟨b,by simp [h1],h2⟩
  ·exact⟨b,by simp [e,hkj,h1],h2⟩
 | [],_::_,_,h=>h.elim
 |_::_,[],_,h=>h.elim
theorem xm {x:C} {y:Value} (h:RelC P w β ok x y):RelC P w (fun k=>if k=j then β i else β k) ok (nV i j (kC [] [j] x)) y:=by
 cases x with
 |p k o=>
  simp only[kC]
  split
  ·trivial
  ·rename_i hh
   have hkj:¬k=j:=fun e=>by subst e;simp [bH,inN] at hh
   obtain⟨b,h1,h2⟩:=h
   simp only[nV]
   split
   ·rename_i e;subst e;exact⟨b,by simp [h1],h2⟩
   ·exact⟨b,by simp [hkj,h1],h2⟩
 |s k m=>
  have h:OwnS P w (β k) m y:=h
  simp only[kC]
  split
  ·trivial
  ·rename_i hh
   have hkj:¬k=j:=fun e=>by subst e;simp [bH,inN] at hh
   simp only[nV]
   split
   ·rename_i e;subst e
    show OwnS P w (if j=j then β k else β j) m y
    rw[if_pos rfl];exact h
   ·show OwnS P w (if k=j then β i else β k) m y
    rw[if_neg hkj];exact h
 |fn g a b=>
  simp only[kC]
  split
  ·trivial
  ·split
   ·trivial
   ·rename_i h1 h2
    obtain⟨va,vb,h3,h4,h5⟩:=h
    exact⟨va,vb,h3,pz (by simpa using h1) h4,pz (by simpa using h2) h5⟩
 |v x=>exact h
 |sl m ds F=>exact h
 |q ds=>exact h
 |ow ty m ds F=>exact h
 |dead=>trivial
 |self=>exact h
theorem yu {i j:Nat} {x:C} (h:nV i j x=C.self):x=C.self:=by
 cases x<;>simp only[nV] at h<;>first|rfl|cases h|(split at h<;>cases h)
theorem pA {i j:Nat}:∀ {cs:List C} {k:Nat},(iR i j cs)[k]?=some C.self->cs[k]?=some C.self
 | [],k,h=>by simp [iR] at h
 |y::r,0,h=>by simp only[iR,List.getElem?_cons_zero,Option.some.injEq] at h ⊢;exact yu h
 |y::r,k+1,h=>by simp only[iR,List.getElem?_cons_succ] at h ⊢;exact pA h
theorem ke:∀ {x:List C} {y:List Value},RelL P w β ok x y->RelL P w (fun k=>if k=j then β i else β k) ok (iR i j (kCs [] [j] x)) y
 | [],[],_=>trivial
 |_::_,_::_,h=>⟨xm h.1,ke h.2⟩
 | [],_::_,h=>h.elim
 |_::_,[],h=>h.elim
theorem tZ:∀ {x:List (List C×Bool)} {y:List Value},RelT P w β ok x y->RelT P w (fun k=>if k=j then β i else β k) ok (tY i j (Dr [] [j] x)) y
 | [],[],_=>trivial
 |(cs,b)::_,_::_,h=>⟨by
  obtain⟨h1,_⟩:=h
  simp only[RelT1] at h1 ⊢
  cases b with
  |true=>exact ke (by simpa using h1)
  |false=>
   simp only[Bool.false_eq_true,if_false] at h1 ⊢
   obtain⟨vs,h2,h3⟩:=h1
   exact⟨vs,h2,ke h3⟩,tZ h.2⟩
 | [],_::_,h=>h.elim
 |_::_,[],h=>h.elim
theorem Av {x:S} {y:Value} (h:RelS P w β ok x y):RelS P w (fun k=>if k=j then β i else β k) ok (yr i j (kS [] [j] x)) y:=by
 cases x with
 |c x=>exact xm h
 |ag cs=>obtain⟨vs,h1,h2⟩:=h;exact⟨vs,h1,ke h2⟩
 |tu xs=>obtain⟨vs,h1,h2⟩:=h;exact⟨vs,h1,tZ h2⟩
end
theorem iS {i j:Nat}:∀ {L:Ob} {k:Nat} {o:O},look (px i j (kL [] [j] L)) k=some o->∃k' o',look L k'=some o'/\k'≠j/\k=(if k'=i then j else k')/\o=Au i j (kO [] [j] o')
 | [],_,_,h=>by simp [kL,px,look] at h
 |(q,b)::r,k,o,h=>by
  simp only[kL] at h
  have next:look (px i j (kL [] [j] r)) k=some o->(∀k',k=(if k'=i then j else k')->k'≠j->k'≠q)->∃k' o',look ((q,b)::r) k'=some o'/\k'≠j/\k=(if k'=i then j else k')/\o=Au i j (kO [] [j] o'):=by
   intro h hq
   obtain⟨k',o',h1,h2,h3,h4⟩:=iS h
   refine⟨k',o',?_,h2,h3,h4⟩
   simp only[look];rw[if_neg fun e=>hq k' h3 h2 e.symm];exact h1
  split at h
  ·rename_i hh
   have hqj:q=j:=by simp [bH,inN] at hh;exact hh.symm
   exact next h fun k' _ hj e=>hj (e.trans hqj)
  ·rename_i hh
   have hqj:q≠j:=fun e=>by subst e;simp [bH,inN] at hh
   simp only[px,look] at h
   by_cases e:(if q=i then j else q)=k
   ·rw[if_pos e] at h
    injection h with h
    exact⟨q,b,by simp [look],hqj,e.symm,h.symm⟩
   ·rw[if_neg e] at h
    refine next h fun k' hk hj e'=>e ?_
    subst e';exact hk.symm
theorem Sim.ren (hs:Sim P n w0 ok0 own0 β f L p a w) {i j:Nat} (hij:i≠j) :
 Sim P n w0 ok0 own0 (fun k=>if k=j then β i else β k) (Ey i j (kR [] [j] f)) (px i j (kL [] [j] L)) p a w/\Tr L β w (px i j (kL [] [j] L)) (fun k=>if k=j then β i else β k) w:=by
 have hβ:∀k',k'≠j->(fun k=>if k=j then β i else β k) (if k'=i then j else k')=β k':=fun k' hk=>by
  by_cases e:k'=i
  ·subst e;simp
  ·simp [e,hk]
 have hown:∀b,ownB (px i j (kL [] [j] L)) (fun k=>if k=j then β i else β k) b->ownB L β b:=by
  rintro b ⟨k,o,h1,h2⟩
  obtain⟨k',o',h3,h4,rfl,_⟩:=iS h1
  exact⟨k',o',h3,by rw[<-hβ k' h4];exact h2⟩
 have hst:=cP (w:=w) (kd (w0:=w0) (ok0:=ok0) hown)
 refine⟨⟨hs.size,hs.defers,fun k=>Av ((hs.slots k).st hst),fun k o hl=>?_,fun k k' o o' b hk hk' hb hb'=>?_,fun b hb=>hs.old b (hown b hb),hs.sub,hs.frame,hs.wd,hs.outer,fun ps hps=>?_⟩,⟨Nat.le_refl _,fun _ _ _=>rfl,fun b _ h=>hown b h,fun _ cs _ lh hc=>⟨cs,lh,hc,rfl⟩⟩⟩
 ·obtain⟨k',o',h3,h4,rfl,rfl⟩:=iS hl
  have hr:=(hs.objs k' o' h3).st hst fun _ _=>rfl
  cases o' with
  |str cs=>obtain⟨b,vs,ty,lh,q1,q2,hlh,hsf,q3⟩:=hr;exact⟨b,vs,ty,lh,(hβ k' h4).trans q1,q2,hlh,hsf.kCs.map fun k=>pA,ke q3⟩
  |arr ty m ds F=>
   rcases hr with⟨q1,q2⟩|⟨b,vs,hd,junk,G,lh,q1,q2⟩
   ·exact .inl ⟨(hβ k' h4).trans q1,q2⟩
   ·exact .inr ⟨b,vs,hd,junk,G,lh,(hβ k' h4).trans q1,q2⟩
 ·obtain⟨k1,o1,h3,h4,rfl,_⟩:=iS hk
  obtain⟨k2,o2,h5,h6,rfl,_⟩:=iS hk'
  have:=hs.inj k1 k2 o1 o2 b h3 h5 (by rw[<-hβ k1 h4];exact hb) (by rw[<-hβ k2 h6];exact hb')
  rw[this]
 ·obtain⟨h1,h2⟩:=hs.pool ps hps
  exact⟨h1,fun b hb=>⟨(h2 b hb).1,(h2 b hb).2.1,fun ho=>(h2 b hb).2.2 (hown b ho)⟩⟩
theorem Sim.reobj (hs:Sim P n w0 ok0 own0 β f L p a w) {i:Nat} {ob ob':O} (hl:look L i=some ob) (hr:RelO P w β (okB w0 ok0 L β) i ob'):Sim P n w0 ok0 own0 β f (iH L i ob') p a w/\Tr L β w (iH L i ob') β w:=by
 have hown:∀b,ownB (iH L i ob') β b->ownB L β b:=fun b=>(iM hl b).1
 have hst:=cP (w:=w) (kd (w0:=w0) (ok0:=ok0) hown)
 refine⟨⟨hs.size,hs.defers,fun k=>(hs.slots k).st hst,fun k o h=>?_,fun j j' o o' x hj hj' hx hx'=>?_,fun b hb=>hs.old b (hown b hb),hs.sub,hs.frame,hs.wd,hs.outer,fun ps hps=>?_⟩,⟨Nat.le_refl _,fun _ _ _=>rfl,fun b _ h=>hown b h,fun _ cs _ lh hc=>⟨cs,lh,hc,rfl⟩⟩⟩
 ·rw[eZ] at h
  split at h
  ·rename_i e;subst e;injection h with h;subst h;exact hr.st hst fun _ _=>rfl
  ·exact (hs.objs k o h).st hst fun _ _=>rfl
 ·have aux:∀j o,look (iH L i ob') j=some o->∃o',look L j=some o':=by
   intro j o hj
   rw[eZ] at hj
   split at hj
   ·rename_i e;subst e;exact⟨ob,hl⟩
   ·exact⟨o,hj⟩
  obtain⟨o1,h1⟩:=aux j o hj
  obtain⟨o2,h2⟩:=aux j' o' hj'
  exact hs.inj j j' o1 o2 x h1 h2 hx hx'
 ·obtain⟨h1,h2⟩:=hs.pool ps hps
  exact⟨h1,fun b hb=>⟨(h2 b hb).1,(h2 b hb).2.1,fun ho=>(h2 b hb).2.2 (hown b ho)⟩⟩
theorem RelL.set {ok:Nat->Prop}:∀ {cs:List C} {vs:List Value} {off:Nat} {x y:C},RelL P w β ok cs vs->cs[off]?=some x->(∀v,RelC P w β ok x v->RelC P w β ok y v)->RelL P w β ok (cs.set off y) vs
 | [],_,_,_,_,_,h,_=>by simp at h
 |_::_,[],_,_,_,h,_,_=>h.elim
 |c::r,v::t,0,x,y,h,hx,hy=>by simp at hx;subst hx;exact⟨hy v h.1,h.2⟩
 |c::r,v::t,off+1,x,y,h,hx,hy=>⟨h.1,RelL.set h.2 (by simpa using hx) hy⟩
theorem iU {ws:List Nat} {k:Rg->Ob->Prop}:∀(gs:List Gh) {β:Nat->Option Nat} {f:Rg} {L:Ob},Sim P n w0 ok0 own0 β f L p a w->py ws gs k f L ->
 ∃ β' f' L',Sim P n w0 ok0 own0 β' f' L' p a w/\(∀i,fam i ∉ ws->β' i=β i)/\Tr L β w L' β' w/\k f' L'
 | [],β,f,L,hs,h=>⟨β,f,L,hs,fun _ _=>rfl,Tr.refl _ _ _,h⟩
 |.ren i j::r,β,f,L,hs,⟨h1,h2,h3⟩=>by
  obtain⟨hs',ht⟩:=hs.ren h1
  obtain⟨β',f',L',q1,q2,q3,q4⟩:=iU r hs' h3
  refine⟨β',f',L',q1,fun m hm=>(q2 m hm).trans ?_,ht.trans q3,q4⟩
  have:¬m=j:=fun e=>hm (by rw[e];exact inN_iff.1 h2)
  simp [this]
 |.virt s j ty::r,β,f,L,hs,⟨h1,h2,h3⟩=>by
  obtain⟨hs',ht⟩:=hs.virt (j:=j) (ty:=ty) (F:=some [])
  have hsl:=hs'.slots s
  have hv:RelS P w (fun k=>if k=j then none else β k) (okB w0 ok0 ((j,.arr ty 0 [] (some []))::kL [] [j] L) (fun k=>if k=j then none else β k)) (.c (.s j 0)) (a.tmps.getD s undef):=by
   have e:kR [] [j] f s=kS [] [j] (f s):=rfl
   rw[e] at hsl
   split at h1
   ·rename_i he
    rw[he] at hsl
    show OwnS P w (if j=j then none else β j) 0 _
    rw[if_pos rfl];exact⟨rfl,hsl.1⟩
   ·exact h1.elim
  obtain⟨β',f',L',q1,q2,q3,q4⟩:=iU r (hs'.refine_slot hv) h3
  refine⟨β',f',L',q1,fun m hm=>(q2 m hm).trans ?_,ht.trans q3,q4⟩
  have:¬m=j:=fun e=>hm (by rw[e];exact inN_iff.1 h2)
  simp [this]
 |.virtC i off j ty::r,β,f,L,hs,⟨h2,h3⟩=>by
  obtain⟨hs',ht⟩:=hs.virt (j:=j) (ty:=ty) (F:=some [])
  split at h3
  case h_2=>exact h3.elim
  rename_i cs hl
  split at h3
  case h_2=>exact h3.elim
  rename_i hcs
  have hro:=hs'.objs i _ hl
  obtain⟨b,vs,ty',lh,e1,e2,hlh,hsf,e3⟩:=hro
  obtain⟨hs'',ht'⟩:=hs'.reobj (ob':=.str (cs.set off (.s j 0))) hl ⟨b,vs,ty',lh,e1,e2,hlh,hsf.map fun k hk=>(by
   rw[List.getElem?_set] at hk
   split at hk
   ·split at hk<;>cases hk
   ·exact hk),e3.set hcs fun v hv=>by
   show OwnS P w (if j=j then none else β j) 0 _
   rw[if_pos rfl];exact⟨rfl,hv.1⟩⟩
  obtain⟨β',f',L',q1,q2,q3,q4⟩:=iU r hs'' h3
  refine⟨β',f',L',q1,fun m hm=>(q2 m hm).trans ?_,(ht.trans ht').trans q3,q4⟩
  have:¬m=j:=fun e=>hm (by rw[e];exact inN_iff.1 h2)
  simp [this]
end
end Go.Dv
namespace Go.Dv
open Go Go.RowKit
open Go.Vc (vis aJ CellF RowF ValsF D inN d6 callable aM Stay guardSlot Plan desc inX fq eM dstsOps dsts fN tyS)
variable [Out]
def bT (ws:List Nat) (f g:Rg):Rg:=fun i=>if inN ws i=true then g i else kS ws [] (f i)
def dLoop (ws:List Nat) (body:KE->K0) (K:KE):K0:=fun f0 L0 p0=>
 ∃gs:List Gh,py ws gs (fun f L=>∃(L1:Ob) (p1:Po) (I:Rg->Ob->Po->Prop) (μ:Rg->Ob->Po->Nat),SubO L1 L/\PoSub p0 p1/\I (bT ws f f) L1 p1 /\
  ((∀g L2 p2,I (bT ws f g) L2 p2->body (fun e f' L' p'=>match e with
    |.normal=>∃L3 p3,SubO L3 L'/\PoSub p' p3/\I (bT ws f f') L3 p3/\μ (bT ws f f') L3 p3 < μ (bT ws f g) L2 p2
    | e=>K e f' L' p') (bT ws f g) L2 p2) ∨
   (∀g L2 p2,I (bT ws f g) L2 p2->body (fun e f' L' p'=>match e with
    |.normal=>∃hs:List Gh,py ws hs (fun f' L'=>∃L3 p3,SubO L3 L'/\PoSub p' p3/\I (bT ws f f') L3 p3/\μ (bT ws f f') L3 p3 < μ (bT ws f g) L2 p2) f' L'
    | e=>K e f' L' p') (bT ws f g) L2 p2))) f0 L0
def d (P:Program) (n:Nat):Code->KE->K0
 |.skip,K=>K .normal
 |.label _,K=>K .normal
 |.region _ ops false,K=>dl P n ops (K .normal) ops.toList
 |.region _ ops true,K=>dDrawn P n ops (K .normal)
 |.seq a b,K=>d P n a fun e=>match e with | .normal=>d P n b K|e=>K e
 |.cond c a b,K=>fun f L p=>match ev f c with
  |.c (.v (.bool t))=>(t=true->d P n a K f L p)/\(t=false->d P n b K f L p)
  |_=>False
 |.block id c,K=>d P n c fun e=>match e with
  |.exit id'=>if id'=id then K .normal else K (.exit id')
  |e=>K e
 |.loop c,K=>dLoop (dsts c) (d P n c) K
 |.exit id,K=>K (.exit id)
 |.ret,K=>K .ret
 |_,_=>fun _ _ _=>False
def fT:Code->Bool
 |.region _ ops _=>At ops
 |.seq a b=>fT a&&fT b
 |.cond c a b=>fD c&&fT a&&fT b
 |.block _ c=>fT c
 |.loop c=>fT c
 |_=>true
section
variable {P:Program} {n:Nat} {w0:World} {ok0 own0:Nat->Prop} {β:Nat->Option Nat} {f:Rg} {L:Ob} {p:Po} {a:Act} {w:World}
 {K:K0} {Q:Exit->Act->World->Prop} {ops:Array Oper} {xs:List Nat}
theorem rO {id:Nat} (hm:P.follows .mixedOrders=true) (hn:n<=9000) (hok:At ops=true) (hs:Sim P n w0 ok0 own0 β f L p a w) (h:dDrawn P n ops K f L p)
 (hK:Eo P n w0 ok0 own0 β L a w (dstsOps ops.toList) K (Q .normal)):(Code.region id ops true).wp P Q a w:=by
 obtain⟨hsel,xs,r,hp,h⟩:=h
 have hb:=(tX (P:=P) (n:=n) (w0:=w0) (ok0:=ok0) (own0:=own0) (K:=K) (xs:=xs) (Q:=fun e a w=>e = .normal/\Q .normal a w) hn hok hsel (fun c a w hq=>by cases hq.1) r).1 ops.size (Array.replicate ops.size false) hp eM hs.drew h
  (fun β' f' L' p' a' w' hs' hk' ht' h'=>⟨rfl,hK _ _ _ _ _ _ hs' hk' ⟨ht'.size,ht'.keep,ht'.own,ht'.cells⟩ h'⟩)
 have hr:=wp_region_any (id:=id) hm (fq _ _ _ _ hb)
 exact Code.wp_mono (fun e a w h=>by obtain⟨rfl,h⟩:=h;exact h) hr
theorem Sim.mix {ws:List Nat} {β':Nat->Option Nat} {g:Rg} {L':Ob} {p':Po} {a':Act} {w':World} (h0:Sim P n w0 ok0 own0 β f L p a w) (h:Sim P n w0 ok0 own0 β' g L' p' a' w')
 (hk:Keep ws β a β' a') (ht:Tr L β w L' β' w'):Sim P n w0 ok0 own0 β' (bT ws f g) L' p' a' w':=by
 refine⟨h.size,h.defers,fun i=>?_,h.objs,h.inj,h.old,h.sub,h.frame,h.wd,h.outer,h.pool⟩
 simp only[bT]
 split
 ·exact h.slots i
 ·rename_i hi
  have hi:i ∉ ws:=fun e=>hi (inN_iff.2 e)
  rw[hk.tmps i hi]
  refine (h0.slots i).tr (fun k hk'=>hk.beta k fun e=>?_) ⟨fun b hv hb=>⟨ht.keep b (vis_lt hv) hb.1,fun ho=>hb.1 (ht.own b (vis_lt hv) ho),hb.2⟩,ht.cells⟩
  simp [bH,inN_iff.2 e] at hk'
theorem ga (hm:P.follows .mixedOrders=true) (hn:n<=9000):∀(c:Code) {K:KE} {Q:Exit->Act->World->Prop} {β:Nat->Option Nat} {f:Rg} {L:Ob} {p:Po} {a:Act} {w:World},fT c=true ->
 Sim P n w0 ok0 own0 β f L p a w->d P n c K f L p ->
 (∀e β' f' L' p' a' w',Sim P n w0 ok0 own0 β' f' L' p' a' w'->Keep (dsts c) β a β' a'->Tr L β w L' β' w'->K e f' L' p'->Q e a' w')->c.wp P Q a w
 |.skip,K,Q,β,f,L,p,a,w,_,hs,h,hK=>wp_skip (hK _ _ _ _ _ _ _ hs (Keep.refl _ _ _) (Tr.refl _ _ _) h)
 |.label l,K,Q,β,f,L,p,a,w,_,hs,h,hK=>wp_label (hK _ _ _ _ _ _ _ hs (Keep.refl _ _ _) (Tr.refl _ _ _) h)
 |.exit id,K,Q,β,f,L,p,a,w,_,hs,h,hK=>wp_exit (hK _ _ _ _ _ _ _ hs (Keep.refl _ _ _) (Tr.refl _ _ _) h)
 |.ret,K,Q,β,f,L,p,a,w,_,hs,h,hK=>wp_ret (hK _ _ _ _ _ _ _ hs (Keep.refl _ _ _) (Tr.refl _ _ _) h)
 |.region id ops false,K,Q,β,f,L,p,a,w,hok,hs,h,hK=>wp_region_list (tW hn ops.toList hok hs h fun _ _ _ _ _ _ hs' hk ht h'=>hK _ _ _ _ _ _ _ hs' hk ht h')
 |.region id ops true,K,Q,β,f,L,p,a,w,hok,hs,h,hK=>rO hm hn hok hs h fun _ _ _ _ _ _ hs' hk ht h'=>hK _ _ _ _ _ _ _ hs' hk ht h'
 |.seq x y,K,Q,β,f,L,p,a,w,hok,hs,h,hK=>by
  simp only[fT,Bool.and_eq_true] at hok
  refine wp_seq (ga hm hn x hok.1 hs h fun e β' f' L' p' a' w' hs' hk ht h'=>?_)
  have hk':Keep (dsts (.seq x y)) β a β' a':=hk.mono fun j hj=>by simp [dsts,hj]
  cases e with
  |normal=>exact ga hm hn y hok.2 hs' h' fun e β'' f'' L'' p'' a'' w'' hs'' hk'' ht'' h''=>hK _ _ _ _ _ _ _ hs'' (hk.trans hk'') (ht.trans ht'') h''
  |exit id=>exact hK _ _ _ _ _ _ _ hs' hk' ht h'
  |goto l=>exact hK _ _ _ _ _ _ _ hs' hk' ht h'
  |ret=>exact hK _ _ _ _ _ _ _ hs' hk' ht h'
  |panic ch=>exact hK _ _ _ _ _ _ _ hs' hk' ht h'
  |outgrown=>exact hK _ _ _ _ _ _ _ hs' hk' ht h'
 |.cond c x y,K,Q,β,f,L,p,a,w,hok,hs,h,hK=>by
  simp only[fT,Bool.and_eq_true] at hok
  have hc:=bC hs hok.1.1
  simp only[d] at h
  split at h
  ·rename_i t hev
   rw[hev] at hc
   have hc:a.eval c = .bool t:=hc.1
   refine wp_cond_split hc (fun ht=>?_) (fun ht=>?_)
   ·exact ga hm hn x hok.1.2 hs (h.1 ht) fun e β'' f'' L'' p'' a'' w'' hs'' hk'' ht'' h''=>hK _ _ _ _ _ _ _ hs'' (hk''.mono fun j hj=>by simp [dsts,hj]) ht'' h''
   ·exact ga hm hn y hok.2 hs (h.2 ht) fun e β'' f'' L'' p'' a'' w'' hs'' hk'' ht'' h''=>hK _ _ _ _ _ _ _ hs'' (hk''.mono fun j hj=>by simp [dsts,hj]) ht'' h''
  ·exact h.elim
 |.block id c,K,Q,β,f,L,p,a,w,hok,hs,h,hK=>by
  refine wp_block (ga hm hn c hok hs h fun e β' f' L' p' a' w' hs' hk ht h'=>?_)
  have hk':Keep (dsts (.block id c)) β a β' a':=hk
  cases e with
  |exit id'=>
   simp only[Exit.inBlock]
   by_cases hid:id'=id
   ·simp only[hid,if_true] at h' ⊢;exact hK _ _ _ _ _ _ _ hs' hk' ht h'
   ·simp only[hid,if_false] at h' ⊢;exact hK _ _ _ _ _ _ _ hs' hk' ht h'
  |normal=>exact hK _ _ _ _ _ _ _ hs' hk' ht h'
  |goto l=>exact hK _ _ _ _ _ _ _ hs' hk' ht h'
  |ret=>exact hK _ _ _ _ _ _ _ hs' hk' ht h'
  |panic ch=>exact hK _ _ _ _ _ _ _ hs' hk' ht h'
  |outgrown=>exact hK _ _ _ _ _ _ _ hs' hk' ht h'
 |.loop c,K,Q,β₀,f₀,L₀,p₀,a,w,hok,hs₀,h,hK=>by
  obtain⟨gs,h⟩:=h
  obtain⟨β,f,L,hs,hβ0,ht0,L1,p1,I,μ,hsub,hpo,hI,hround⟩:=iU gs hs₀ h
  have hs1:=hs.drop hsub hpo
  have hk0:Keep (dsts c) β₀ a β a:=⟨fun j hj=>hβ0 j hj,fun _ _=>rfl⟩
  have ht1:Tr L₀ β₀ w L1 β w:=ht0.trans (Tr.drop hsub)
  refine fN (P:=P) (k₀ := μ (bT (dsts c) f f) L1 p1)
   (fun k a' w'=>∃ β' g L2 p2,Sim P n w0 ok0 own0 β' (bT (dsts c) f g) L2 p2 a' w'/\Keep (dsts c) β a β' a'/\Tr L1 β w L2 β' w'/\I (bT (dsts c) f g) L2 p2/\k=μ (bT (dsts c) f g) L2 p2) ?_ ?_
  ·rintro k a' w' ⟨β',g,L2,p2,hs2,hk1,ht2,hI2,rfl⟩
   rcases hround with hround|hround
   ·refine ga hm hn c hok hs2 (hround g L2 p2 hI2) fun e β'' f'' L'' p'' a'' w'' hs'' hk'' ht'' h''=>?_
    have hk2:Keep (dsts c) β a β'' a'':=(hk1.trans hk'').mono fun j hj=>by simpa using hj
    have hk3:Keep (dsts (.loop c)) β₀ a β'' a'':=(hk0.trans hk2).mono fun j hj=>by simpa [dsts] using hj
    have ht3:=ht2.trans ht''
    have ht4:=ht1.trans ht3
    cases e with
    |normal=>
     obtain⟨L3,p3,hsub3,hpo3,hI3,hlt⟩:=h''
     have hmix:=hs1.mix hs'' hk2 ht3
     exact⟨_,hlt,β'',f'',L3,p3,hmix.drop hsub3 hpo3,hk2,ht3.trans (Tr.drop hsub3),hI3,rfl⟩
    |exit id=>exact hK _ _ _ _ _ _ _ hs'' hk3 ht4 h''
    |goto l=>exact hK _ _ _ _ _ _ _ hs'' hk3 ht4 h''
    |ret=>exact hK _ _ _ _ _ _ _ hs'' hk3 ht4 h''
    |panic ch=>exact hK _ _ _ _ _ _ _ hs'' hk3 ht4 h''
    |outgrown=>exact hK _ _ _ _ _ _ _ hs'' hk3 ht4 h''
   ·refine ga hm hn c hok hs2 (hround g L2 p2 hI2) fun e β'' f'' L'' p'' a'' w'' hs'' hk'' ht'' h''=>?_
    have hk2:Keep (dsts c) β a β'' a'':=(hk1.trans hk'').mono fun j hj=>by simpa using hj
    have hk3:Keep (dsts (.loop c)) β₀ a β'' a'':=(hk0.trans hk2).mono fun j hj=>by simpa [dsts] using hj
    have ht3:=ht2.trans ht''
    have ht4:=ht1.trans ht3
    cases e with
    |normal=>
     obtain⟨gs',h''⟩:=h''
     obtain⟨β3,f3,L4,hs4,hβ4,ht5,L3,p3,hsub3,hpo3,hI3,hlt⟩:=iU gs' hs'' h''
     have hk4:Keep (dsts c) β a β3 a'':=⟨fun j hj=>(hβ4 j hj).trans (hk2.beta j hj),hk2.tmps⟩
     have ht6:=ht3.trans ht5
     have hmix:=hs1.mix hs4 hk4 ht6
     exact⟨_,hlt,β3,f3,L3,p3,hmix.drop hsub3 hpo3,hk4,ht6.trans (Tr.drop hsub3),hI3,rfl⟩
    |exit id=>exact hK _ _ _ _ _ _ _ hs'' hk3 ht4 h''
    |goto l=>exact hK _ _ _ _ _ _ _ hs'' hk3 ht4 h''
    |ret=>exact hK _ _ _ _ _ _ _ hs'' hk3 ht4 h''
    |panic ch=>exact hK _ _ _ _ _ _ _ hs'' hk3 ht4 h''
    |outgrown=>exact hK _ _ _ _ _ _ _ hs'' hk3 ht4 h''
  ·exact⟨β,f,L1,p1,hs1.mix hs1 (Keep.refl _ _ _) (Tr.refl _ _ _),Keep.refl _ _ _,Tr.refl _ _ _,hI,rfl⟩
 |.rangeFunc _ _ _ _,K,Q,β,f,L,p,a,w,_,hs,h,hK=>h.elim
 |.scope _,K,Q,β,f,L,p,a,w,_,hs,h,hK=>h.elim
 |.goto _,K,Q,β,f,L,p,a,w,_,hs,h,hK=>h.elim
 |.refuse _,K,Q,β,f,L,p,a,w,_,hs,h,hK=>h.elim
end
end Go.Dv
namespace Go.Dv
open Go Go.RowKit
open Go.Vc (vis aJ CellF RowF ValsF D inN d6 callable aM Stay dsts tyS TS resV results_run mv aR bW bX)
variable [Out]
def vH (P:Program) (L:Ob) (f:Rg):ResultVar->Option S
 |.tmp t=>some (f t)
 |.cell p ty=>match f p with
  | .c (.p i 0)=>(match look L i with
   |some (.str cs)=>Ds (tyS P ty) cs
   | _=>none)
  |_=>none
def io (P:Program) (L:Ob) (f:Rg):List ResultVar->Option (List S)
 | []=>some []
 |r::rs=>match vH P L f r with
  |some s=>(match io P L f rs with|some ss=>some (s::ss)|none=>none)
  |none=>none
def pB:List S->Option Nat
 | []=>none
 |.ag cs::r=>(match ownsC cs with|some i=>some i|none=>pB r)
 |_::r=>pB r
def vI:Nat->List S->(List S->K0)->K0
 |0,_,_=>fun _ _ _=>False
 |fuel+1,ss,k=>match pB ss with
  |none=>k ss
  |some i=>frz i fun m x=>vI fuel (Ew i m x ss) k
def fG:List S->Option S
 | [s]=>some s
 |ss=>(compsS ss).map .tu
 where
 compsS:List S->Option (List (List C×Bool))
 | []=>some []
 |.c x::r=>(match compsS r with|some q=>some (([x],true)::q)|none=>none)
 |.ag cs::r=>(match compsS r with|some q=>some ((cs,false)::q)|none=>none)
 |.tu _::_=>none
def Ck:Nat->Nat->List (Nat×Nat)
 |_,0=>[]
 |k,m+1=>(9000+k,9000+k)::Ck (k+1) m
def Ez (ρ:List (Nat×Nat)) (L:Ob):List (List C×Bool)->List (List C×Bool)->Prop
 | [],[]=>True
 |(a,t)::r,(b,u)::s=>t=u/\uJ ρ L a b/\Ez ρ L r s
 |_,_=>False
def leR (ρ:List (Nat×Nat)) (L:Ob):S->S->Prop
 |.c x,.c y=>qm ρ L x y
 |.ag a,.ag b=>uJ ρ L a b
 |.tu a,.tu b=>Ez ρ L a b
 |_,_=>False
def yw:List (List C×Bool)->List (List C×Bool)->List (Nat×Nat)
 |(a,_)::r,(b,_)::s=>lK a b++yw r s
 |_,_=>[]
def vJ:S->S->List (Nat×Nat)
 |.c x,.c y=>qr x y
 |.ag a,.ag b=>lK a b
 |.tu a,.tu b=>yw a b
 |_,_=>[]
def rhoE (L:Ob) (s r:S) (nobj:Nat) (objs:List (List C)):List (Nat×Nat):=mm L (Ck 0 nobj++vJ s (expS 9700 r)) (back r objs)
def rP:List (List C×Bool)->List (List C×Bool)->List Nat
 |(a,_)::r,(b,_)::s=>iN a b++rP r s
 |_,_=>[]
def rQ:S->S->List Nat
 |.c x,.c y=>qt x y
 |.ag a,.ag b=>iN a b
 |.tu a,.tu b=>rP a b
 |_,_=>[]
def brwE (L:Ob) (ρ:List (Nat×Nat)) (s r:S) (objs:List (List C)):List Nat:=rQ s (expS 9700 r)++l4 L ρ (back r objs)
def inPool (p:Po) (F:List (List Nat)):Prop:=match p with
 |none=>F=[]
 |some ps=>Sb F.flatten ps.flatten
structure EndOk (L:Ob) (p:Po) (s r:S) (nobj:Nat) (objs:List (List C)):Prop where
 len:objs.length=nobj
 flat:flat r objs=true
 res:leR (rhoE L s r nobj objs) L s (expS 9700 r)
 obj:leB (rhoE L s r nobj objs) L (back r objs)
 once:nodupB ((rhoE L s r nobj objs).map (·.2))=true
 disj:disjB (brwE L (rhoE L s r nobj objs) s r objs) ((rhoE L s r nobj objs).map (·.2))=true
 pool:inPool p (fps r objs)
def vK (P:Program) (rs:List ResultVar) (nobj:Nat) (R:S->List (List C)->Prop):K0:=fun f L p=>
 match io P L f rs with
 | some ss=>vI 12 ss (fun ss _ L p=>match fG ss with
  |some s=>∃r objs,R r objs/\EndOk L p s r nobj objs
  | none=>False) f L p
 |none=>False
def Cm (P:Program) (rs:List ResultVar) (nobj:Nat) (R:S->List (List C)->Prop):KE
 |.normal | .ret=>vK P rs nobj R
 |_=>fun _ _ _=>False
def r8 (P:Program) (rs:List ResultVar) (R:List C->Prop):K0:=fun f L p=>
 match io P L f rs with
 |some [.c (.p i 0)]=>∃cs,look L i=some (.str cs)/\bg cs=true/\R cs
 |_=>False
def Aw (P:Program) (rs:List ResultVar) (R:List C->Prop):KE
 |.normal | .ret=>r8 P rs R
 |_=>fun _ _ _=>False
def pC:List S->Option Nat
 | []=>none
 |.ag cs::r=>(match ownsC cs with|some i=>some i|none=>pC r)
 |.c (.s i _)::_=>some i
 |_::r=>pC r
def Co:Nat->List S->(List S->K0)->K0
 |0,_,_=>fun _ _ _=>False
 |fuel+1,ss,k=>match pC ss with
  |none=>k ss
  |some i=>frz i fun m x=>Co fuel (Ew i m x ss) k
def xp (P:Program) (rs:List ResultVar) (R:List C->List C×Bool->Prop):K0:=fun f L p=>
 match io P L f rs with
 | some ss=>Co 12 ss (fun ss _ L _=>match ss with
  | [.c (.p i 0),y]=>(match fG.compsS [y] with
   |some [x]=>∃cs,look L i=some (.str cs)/\bg cs=true/\bg x.1=true/\R cs x
   | _=>False)
  | _=>False) f L p
 |none=>False
def Dx (P:Program) (rs:List ResultVar) (R:List C->List C×Bool->Prop):KE
 |.normal | .ret=>xp P rs R
 |_=>fun _ _ _=>False
def jx:List S->Rg
 | []=>fun _=>.tu []
 |v::vs=>fun i=>match i with|0=>v|i+1=>jx vs i
section
variable {P:Program} {n:Nat} {w0:World} {ok0 own0:Nat->Prop} {β:Nat->Option Nat} {f:Rg} {L:Ob} {p:Po} {a:Act} {w:World}
theorem vL (hs:Sim P n w0 ok0 own0 β f L p a w) {r:ResultVar} {s:S} (h:vH P L f r=some s) :
 ∃v,(resV a.tmps r).run P w = .ok v w/\RelS P w β (okB w0 ok0 L β) s v:=by
 cases r with
 |tmp t=>simp only[vH,Option.some.injEq] at h;subst h;exact⟨_,rfl,hs.slots t⟩
 |cell q ty=>
  simp only[vH] at h
  have hp:=hs.slots q
  split at h
  case h_2=>cases h
  rename_i i hev
  rw[hev] at hp
  obtain⟨b,hb,hp⟩:=hp
  split at h
  case h_2=>cases h
  rename_i cs hl
  obtain⟨b',vs,ty',lh,h1,h2,hlh,_,h3⟩:=hs.objs i _ hl
  rw[hb] at h1;injection h1 with h1;subst h1
  have hcell:∀j,w.cell? ⟨b,j,none⟩=vs.toList[j]?:=fun j=>by rw[cell_of_row w b j vs _ _ h2];simp
  rcases wX h h3 with⟨ht,v,hv,hr⟩|⟨k,ht,hk,hr⟩
  ·have hrun:(loadVar ty ⟨b,0,none⟩).run P w = .ok v w:=bW ht (by rw[hcell,hv];rfl)
   exact⟨v,by simp [resV,hp,asAddr,hrun],hr⟩
  ·have hrun:(loadVar ty ⟨b,0,none⟩).run P w = .ok (.agg vs.toList.toArray) w:=
    bX ht hk (fun j v hj=>by rw[aR,Nat.zero_add,hcell];exact hj)
   exact⟨_,by simp [resV,hp,asAddr,hrun],hr⟩
theorem jh (hs:Sim P n w0 ok0 own0 β f L p a w):∀ {rs:List ResultVar} {ss:List S},io P L f rs=some ss ->
 ∃vs,(rs.mapM (resV a.tmps)).run P w = .ok vs w/\RelA P w β (okB w0 ok0 L β) ss vs
 | [],ss,h=>by simp only[io,Option.some.injEq] at h;subst h;exact⟨[],rfl,trivial⟩
 |r::rs,ss,h=>by
  simp only[io] at h
  cases hr:vH P L f r with
  |none=>simp [hr] at h
  |some s=>cases hrs:io P L f rs with
   |none=>simp [hr,hrs] at h
   |some us=>
    simp only[hr,hrs,Option.some.injEq] at h
    subst h
    obtain⟨v,h1,h2⟩:=vL hs hr
    obtain⟨vs,h3,h4⟩:=jh hs hrs
    exact⟨v::vs,by simp only[List.mapM_cons,Sem.run_bind,h1,Result.andThen_ok,h3,Sem.run_pure],h2,h4⟩
theorem pE {k:List S->K0}:∀(fuel:Nat) {ss:List S} {f:Rg} {L:Ob} {p:Po} {vs:List Value},Sim P n w0 ok0 own0 β f L p a w->RelA P w β (okB w0 ok0 L β) ss vs->vI fuel ss k f L p ->
 ∃ss' f' L' p',k ss' f' L' p'/\Sim P n w0 ok0 own0 β f' L' p' a w/\Tr L β w L' β w/\RelA P w β (okB w0 ok0 L' β) ss' vs
 |0,_,_,_,_,_,_,_,h=>h.elim
 |fuel+1,ss,f,L,p,vs,hs,hr,h=>by
  cases hi:pB ss with
  |none=>simp only[vI,hi] at h;exact⟨ss,f,L,p,h,hs,Tr.refl _ _ _,hr⟩
  |some i=>
   simp only[vI,hi] at h
   obtain⟨m,x,f',L',p',hk,hs',ht,hm,hx⟩:=kM hs h
   obtain⟨ss',f'',L'',p'',hk',hs'',ht',hr'⟩:=pE fuel hs' (rL hm hx hr) hk
   exact⟨ss',f'',L'',p'',hk',hs'',ht.trans ht',hr'⟩
theorem mW {ok:Nat->Prop}:∀ {ss:List S} {vs:List Value} {q:List (List C×Bool)},RelA P w β ok ss vs->fG.compsS ss=some q->RelT P w β ok q vs
 | [],[],q,_,h=>by simp [fG.compsS] at h;subst h;trivial
 |s::r,v::vs,q,hr,h=>by
  cases s with
  |tu xs=>simp [fG.compsS] at h
  |c x=>
   simp only[fG.compsS] at h
   split at h
   ·rename_i q' hq
    injection h with h;subst h
    exact⟨by simp only[RelT1,if_true];exact⟨hr.1,trivial⟩,mW hr.2 hq⟩
   ·cases h
  |ag cs=>
   simp only[fG.compsS] at h
   split at h
   ·rename_i q' hq
    injection h with h;subst h
    exact⟨by simp only[RelT1,Bool.false_eq_true,if_false];exact hr.1,mW hr.2 hq⟩
   ·cases h
 | [],_::_,_,hr,_=>hr.elim
 |_::_,[],_,hr,_=>hr.elim
theorem Ax {ok:Nat->Prop} {ss:List S} {vs:List Value} {s:S} (hr:RelA P w β ok ss vs) (h:fG ss=some s):RelS P w β ok s (mv vs):=by
 have tup:∀ {vs:List Value} {ss:List S},RelA P w β ok ss vs->(fG.compsS ss).map S.tu=some s->RelS P w β ok s (.tuple vs.toArray):=by
  intro vs ss hr h
  cases hq:fG.compsS ss with
  |none=>simp [hq] at h
  |some q=>simp [hq] at h;subst h;exact⟨vs,rfl,mW hr hq⟩
 match ss,vs,hr with
 | [],[],hr=>exact tup hr h
 | [x],[v],hr=>simp [fG] at h;subst h;exact hr.1
 |x::y::r,v::u::t,hr=>exact tup hr h
 | [],_::_,hr=>exact hr.elim
 |_::_,[],hr=>exact hr.elim
 | [_],_::_::_,hr=>exact hr.2.elim
 |_::_::_,[_],hr=>exact hr.2.elim
variable {ρ:List (Nat×Nat)} {A:Ob} {bs:List Nat}
theorem xq (hs:Sim P n w0 ok0 own0 β f L p a w) (hB:leB ρ L A) (hd:∀i∈bs,i ∉ ρ.map (·.2)):∀ {x c:List (List C×Bool)} {y:List Value},(∀i∈rP x c,i∈bs)->Ez ρ L x c->RelT P w β (okB w0 ok0 L β) x y ->
 RelT P w (bc ρ β) (qV (x6 w0 ok0 L β bs) A (bc ρ β)) c y
 | [],[],[],_,_,_=>trivial
 |(x,t)::r,(c,u)::s,y::q,hb,h,hr=>by
  obtain⟨rfl,h1,h2⟩:=h
  refine⟨?_,xq hs hB hd (fun i hi=>hb i (by simp [rP,hi])) h2 hr.2⟩
  have hr1:=hr.1
  simp only[RelT1] at hr1 ⊢
  have hb1:∀i∈iN x c,i∈bs:=fun i hi=>hb i (by simp [rP,hi])
  split
  ·rename_i ht;rw[if_pos ht] at hr1;exact kN hs hB hd hb1 h1 hr1
  ·rename_i ht;rw[if_neg ht] at hr1;obtain⟨vs,q1,q2⟩:=hr1;exact⟨vs,q1,kN hs hB hd hb1 h1 q2⟩
 | [],[],_::_,_,_,hr=>hr.elim
 | [],_::_,_,_,h,_=>h.elim
 |_::_,[],_,_,h,_=>h.elim
 |_::_,_::_,[],_,_,hr=>hr.elim
theorem Cp (hs:Sim P n w0 ok0 own0 β f L p a w) (hB:leB ρ L A) (hd:∀i∈bs,i ∉ ρ.map (·.2)) {x c:S} {y:Value} (hb:∀i∈rQ x c,i∈bs) (h:leR ρ L x c) (hr:RelS P w β (okB w0 ok0 L β) x y) :
 RelS P w (bc ρ β) (qV (x6 w0 ok0 L β bs) A (bc ρ β)) c y:=by
 cases x<;>cases c<;>simp only[leR] at h
 ·exact rJ hs hB hd hb h hr
 ·obtain⟨vs,h1,h2⟩:=hr
  exact⟨vs,h1,kN hs hB hd hb h h2⟩
 ·obtain⟨vs,h1,h2⟩:=hr
  exact⟨vs,h1,xq hs hB hd hb h h2⟩
theorem gI:∀ {ρ σ:List (Nat×Nat)} {j i:Nat},lk ρ j=some i->lk (ρ++σ) j=some i
 | [],_,_,_,h=>by simp [lk] at h
 |(a,b)::r,σ,j,i,h=>by
  simp only[List.cons_append,lk] at h ⊢
  split
  ·rename_i e;rw[if_pos e] at h;exact h
  ·rename_i e;rw[if_neg e] at h;exact gI h
theorem mn:∀ {A:Ob} {ρ:List (Nat×Nat)} {j i:Nat},lk ρ j=some i->lk (mm L ρ A) j=some i
 | [],_,_,_,h=>h
 |(q,.str cs)::r,ρ,j,i,h=>by
  simp only[mm]
  split
  ·split
   ·exact mn (gI h)
   ·exact mn h
  ·exact mn h
 |(q,.arr ..)::r,ρ,j,i,h=>by simp only[mm];exact mn h
theorem Ay:∀ {m k t:Nat},t<m->lk (Ck k m) (9000+(k+t))=some (9000+(k+t))
 |0,_,_,h=>by omega
 |m+1,k,0,_=>by simp [Ck,lk]
 |m+1,k,t+1,h=>by
  have ih:=Ay (m:=m) (k:=k+1) (t:=t) aa
  have e:9000+(k+(t+1))=9000+(k+1+t):=by omega
  rw[e]
  simp only[Ck,lk]
  rw[if_neg aa];exact ih
theorem yx {rs:List ResultVar} {R:S->List (List C)->Prop} {Lc:Ob} {βc:Nat->Option Nat} {okk:Nat->Prop} {nobj:Nat} {T:List Nat} (hs:Sim P n w0 (fun b=>okk b∨ownB Lc βc b) (fun b=>ownB Lc βc b∨b∈T) β f L p a w) (h:vK P rs nobj R f L p)
 (hfix:∀k,k<nobj->β (9000+k)=βc (9000+k)) (htr:Tr Lc βc w0 L β w) :
 ∃vs,(rs.mapM (resV a.tmps)).run P w = .ok vs w/\∃r objs β',R r objs/\PostT P w0 βc okk Lc nobj (mv vs) w r objs β' T:=by
 unfold vK at h
 split at h
 case h_2=>exact h.elim
 rename_i ss hss
 obtain⟨vs,hrun,hr⟩:=jh hs hss
 obtain⟨ss',f',L',p',hk,hs',ht,hr'⟩:=pE 12 hs hr h
 split at hk
 case h_2=>exact hk.elim
 rename_i s hsw
 obtain⟨r,objs,hR,e⟩:=hk
 have hrs:=Ax hr' hsw
 have htr':=htr.trans ht
 obtain⟨e1,e2,e3,e4,e5,e6,e7⟩:=e
 generalize hρ:rhoE L' s r nobj objs=ρ at *
 have hd:=lM e6
 generalize hbs:brwE L' ρ s r objs=bs at *
 have hb1:∀i∈rQ s (expS 9700 r),i∈bs:=fun i hi=>by rw[<-hbs];exact List.mem_append_left _ hi
 have hb2:∀i∈l4 L' ρ (back r objs),i∈bs:=fun i hi=>by rw[<-hbs];exact List.mem_append_right _ hi
 have hrel:=Cp hs' e4 hd hb1 e3 hrs
 have hobj:=qY hs' e4 e5 hd hb2
 have hok:∀b,qV (x6 w0 (fun b=>okk b∨ownB Lc βc b) L' β bs) (back r objs) (bc ρ β) b->okR w0 okk Lc βc (back r objs) (bc ρ β) b:=fun b hb=>⟨hb.1,fun hlt=>by
  rcases hb.2 with h1|⟨i,_,⟨o,h1⟩,h2⟩
  ·exact h1.2 hlt
  ·exact .inr (htr'.own b hlt ⟨i,o,h1,h2⟩)⟩
 have hown:∀b,ownB (back r objs) (bc ρ β) b->ownB L' β b:=fun b ho=>by
  obtain⟨j,i,o1,o2,_,_,h3,_,h4⟩:=iQ e4 ho;exact⟨i,o2,h3,h4⟩
 have hst:=cP (w:=w) hok
 refine⟨vs,hrun,r,objs,bc ρ β,hR,⟨hrel.st hst,⟨fun i o hl=>(hobj.rel i o hl).st hst fun _ _=>rfl,hobj.inj⟩,fun k hk=>?_,e1,⟨htr'.size,htr'.keep,fun b hb ho=>htr'.own b hb (hown b ho),htr'.cells⟩,hs'.wd,hs'.outer,?_,e2⟩⟩
 ·have:lk ρ (9000+k)=some (9000+k):=by
   rw[<-hρ]
   refine mn (gI ?_)
   have:=Ay (m:=nobj) (k:=0) (t:=k) hk
   rwa[Nat.zero_add] at this
  simp only[bc,this,Option.bind_some]
  exact hfix k hk
 ·unfold inPool at e7
  split at e7
  ·rw[e7];exact⟨List.nodup_nil,fun b hb=>by cases hb⟩
  ·rename_i ps
   obtain⟨h1,h2⟩:=hs'.pool ps rfl
   exact⟨e7.nodup h1,fun b hb=>⟨(h2 b (e7.mem hb)).1,(h2 b (e7.mem hb)).2.1,fun ho=>(h2 b (e7.mem hb)).2.2 (hown b ho)⟩⟩
theorem mX {ok:Nat->Prop} (k:Nat):∀ {args:List S} {vs:List Value} (_:RelA P w β ok args vs) (i:Nat),RelS P w β ok (jx args i) ((vs++List.replicate k undef)[i]?.getD undef)
 | [],[],_,i=>by
  have:(([]:List Value)++List.replicate k undef)[i]?.getD undef=undef:=by
   simp only[List.nil_append,List.getElem?_replicate];split<;>rfl
  rw[this];exact kQ
 |x::r,v::t,h,0=>h.1
 |x::r,v::t,h,i+1=>by simpa [jx] using mX k h.2 i
 | [],_::_,h,_=>h.elim
 |_::_,[],h,_=>h.elim
theorem RelA.length {ok:Nat->Prop}:∀ {xs:List S} {vs:List Value},RelA P w β ok xs vs->xs.length=vs.length
 | [],[],_=>rfl
 |_::_,_::_,h=>by simp [RelA.length h.2]
 | [],_::_,h=>h.elim
 |_::_,[],h=>h.elim
theorem nH:∀(b:Nat) (xs:List S),(expA b xs).length=xs.length
 |_,[]=>rfl
 |b,x::r=>by simp [expA,nH]
theorem pF (hm:P.follows .mixedOrders=true) {fi:FuncId} {fn:Func} {c:Code} {args:List S} {objs:List (List C)} {R:S->List (List C)->Prop} (p0:Po) (T:List Nat) (hp0:∀ps,p0=some ps->ps.flatten=T) (hf:P.funcs[fi]?=some fn) (hb:fn.body=some c)
 (hc:(callable P fi&&decide (fn.ntmps<=9000)&&decide (args.length<=fn.ntmps)&&fT c&&(dsts c).all (fun j=>decide (j<9000))&&decide (objs.length<=100))=true)
 (h:d P fn.ntmps c (Cm P fn.results.toList objs.length R) (jx (expA 9500 args)) (lent args objs) p0):ClT P fi args objs T R:=by
 simp only[Bool.and_eq_true,decide_eq_true_eq] at hc
 obtain⟨⟨⟨⟨⟨hcall,hn⟩,hargs⟩,hok⟩,hds⟩,hobjs⟩:=hc
 refine⟨hcall,fun w βc okk vs ha ho hg hT=>calls_of_wp hf hb ?_⟩
 have hup:∀b,qV okk (lent args objs) βc b->okB w (fun b=>okk b∨ownB (lent args objs) βc b) (lent args objs) βc b:=fun b hb=>⟨hb.1,fun _=>.inl hb.2⟩
 have hst:=cP (w:=w) hup
 have hlen:vs.length=args.length:=by rw[<-ha.length,nH]
 have ha':RelA P w βc (okB w (fun b=>okk b∨ownB (lent args objs) βc b) (lent args objs) βc) (expA 9500 args) vs:=by
  have:∀ {xs:List S} {us:List Value},RelA P w βc (qV okk (lent args objs) βc) xs us->RelA P w βc (okB w (fun b=>okk b∨ownB (lent args objs) βc b) (lent args objs) βc) xs us:=by
   intro xs
   induction xs with
   |nil=>intro us h;cases us<;>exact h
   |cons x r ih=>intro us h;cases us with
    |nil=>exact h.elim
    |cons u t=>exact⟨h.1.st hst,ih h.2⟩
  exact this ha
 have hs:Sim P fn.ntmps w (fun b=>okk b∨ownB (lent args objs) βc b) (fun b=>ownB (lent args objs) βc b∨b∈T) βc (jx (expA 9500 args)) (lent args objs) p0 { tmps:=vs.toArray++Array.replicate (fn.ntmps-vs.toArray.size) undef,defers:=[] } w:=by
  refine⟨by simp;omega,rfl,fun i=>?_,fun i o hl=>(ho.rel i o hl).st hst fun _ _=>rfl,ho.inj,fun b hb _=>.inl hb,⟨fun b hb=>hb.elim .inr fun h=>.inl (hT.2 b h).1.2,hg⟩,fun _ _ _=>rfl,Wd.refl _,⟨rfl,rfl,rfl⟩,fun ps hps=>?_⟩
  ·have:=mX (fn.ntmps-vs.length) ha' i
   have e:(vs.toArray++Array.replicate (fn.ntmps-vs.toArray.size) undef)[i]?=(vs++List.replicate (fn.ntmps-vs.length) undef)[i]?:=by
    rw[<-Array.getElem?_toList];simp
   simp only[Array.getD_eq_getD_getElem?,e];exact this
  ·rw[hp0 ps hps]
   exact⟨hT.1,fun b hb=>⟨.inr (.inr hb),(hT.2 b hb).2,(hT.2 b hb).1.1⟩⟩
 refine ga hm hn c hok hs h fun e β' f' L' p' a' w' hs' hk ht h'=>?_
 have fin:vK P fn.results.toList objs.length R f' L' p'->a'.defers=[]/\∃v,(results fn a'.tmps).run P w' = .ok v w' /\
  (fun e w''=>∃v r objs' β'',e=Ending.returned v/\R r objs'/\PostT P w βc okk (lent args objs) objs.length v w'' r objs' β'' T) (.returned v) w':=by
  intro h'
  obtain⟨us,hrun,r,os,β'',hR,hp⟩:=yx hs' h' (fun k hk'=>hk.beta _ fun e=>by
   have h1:=List.all_eq_true.1 hds _ e
   simp only[decide_eq_true_eq] at h1
   rw[ov aa] at h1
   omega) ht
  exact⟨hs'.defers,_,results_run hrun,_,r,os,β'',rfl,hR,hp⟩
 cases e with
 |normal=>exact fin h'
 |ret=>exact fin h'
 |exit id=>exact h'.elim
 |goto l=>exact h'.elim
 |panic ch=>exact h'.elim
 |outgrown=>exact h'.elim
theorem am (hm:P.follows .mixedOrders=true) {fi:FuncId} {fn:Func} {c:Code} {args:List S} {objs:List (List C)} {R:S->List (List C)->Prop} (fr:Bool) (hf:P.funcs[fi]?=some fn) (hb:fn.body=some c)
 (hc:(callable P fi&&decide (fn.ntmps<=9000)&&decide (args.length<=fn.ntmps)&&fT c&&(dsts c).all (fun j=>decide (j<9000))&&decide (objs.length<=100))=true)
 (h:d P fn.ntmps c (Cm P fn.results.toList objs.length R) (jx (expA 9500 args)) (lent args objs) (if fr=true then some [] else none)):Cl P fi args objs R:=
 ClT.cl (pF hm (if fr=true then some [] else none) [] (fun ps h=>by
  split at h
  ·injection h with h;subst h;rfl
  ·cases h) hf hb hc h)
theorem mp:∀ {cs:List C},bg cs=true->fc cs=true
 | [],_=>rfl
 |x::r,h=>by
  simp only[bg,Bool.and_eq_true] at h
  have:=mp h.2
  cases x<;>simp_all [je,fc]
theorem ff {ok:Nat->Prop}:∀ {cs:List C} {xs:List Value} (β':Nat->Option Nat),bg cs=true->RelL P w β ok cs xs->RelL P w β' ok cs xs
 | [],[],_,_,_=>trivial
 | [],_::_,_,_,h=>h.elim
 |_::_,[],_,_,h=>h.elim
 |x::r,y::t,β',hp,h=>by
  simp only[bg,Bool.and_eq_true] at hp
  refine⟨?_,ff β' hp.2 h.2⟩
  have h1:=h.1
  cases x with
  |v=>exact h1
  |sl=>exact h1
  |_=>simp [je] at hp
theorem pG {ok:Nat->Prop} (β':Nat->Option Nat):∀ {xs:List (List C×Bool)} {ys:List Value},bg (xs.flatMap (·.1))=true->RelT P w β ok xs ys->RelT P w β' ok xs ys
 | [],[],_,_=>trivial
 | [],_::_,_,h=>h.elim
 |_::_,[],_,h=>h.elim
 |(cs,t)::r,y::ys,hp,h=>by
  have hp:bg (cs++r.flatMap (·.1))=true:=hp
  have happ:∀a b:List C,bg (a++b)=(bg a&&bg b):=by
   intro a b
   induction a with
   |nil=>simp [bg]
   |cons x r ih=>simp [bg,ih,Bool.and_assoc]
  rw[happ,Bool.and_eq_true] at hp
  refine⟨?_,pG β' hp.2 h.2⟩
  have h1:=h.1
  simp only[RelT1] at h1 ⊢
  split
  ·rename_i ht;rw[if_pos ht] at h1;exact ff β' hp.1 h1
  ·rename_i ht;rw[if_neg ht] at h1;obtain⟨vs,h2,h3⟩:=h1;exact⟨vs,h2,ff β' hp.1 h3⟩
theorem vM {ok:Nat->Prop} (β':Nat->Option Nat) {x:S} {y:Value} (hp:bg (aO x)=true) (h:RelS P w β ok x y):RelS P w β' ok x y:=by
 cases x with
 |c x=>
  have h1:RelL P w β ok [x] [y]:=⟨h,trivial⟩
  exact (ff β' (cs:=[x]) hp h1).1
 |ag cs=>obtain⟨vs,h1,h2⟩:=h;exact⟨vs,h1,ff β' hp h2⟩
 |tu xs=>obtain⟨vs,h1,h2⟩:=h;exact⟨vs,h1,pG β' hp h2⟩
theorem pH {ok:Nat->Prop} (β':Nat->Option Nat):∀ {xs:List S} {ys:List Value},(xs.all fun s=>bg (aO s))=true->RelA P w β ok xs ys->RelA P w β' ok xs ys
 | [],[],_,_=>trivial
 | [],_::_,_,h=>h.elim
 |_::_,[],_,h=>h.elim
 |x::r,y::ys,hp,h=>by
  simp only[List.all_cons,Bool.and_eq_true] at hp
  exact⟨vM β' hp.1 h.1,pH β' hp.2 h.2⟩
theorem RelA.okmono {ok ok':Nat->Prop} (h:∀b,ok b->ok' b):∀ {xs:List S} {us:List Value},RelA P w β ok xs us->RelA P w β ok' xs us
 | [],[],_=>trivial
 | [],_::_,h1=>h1.elim
 |_::_,[],h1=>h1.elim
 |_::_,_::_,h1=>⟨h1.1.st (cP (w:=w) h),h1.2.okmono h⟩
theorem Az (hm:P.follows .mixedOrders=true) {fi:FuncId} {fn:Func} {c:Code} {args:List S} {R:List C->Prop} (hf:P.funcs[fi]?=some fn) (hb:fn.body=some c)
 (hc:(callable P fi&&decide (fn.ntmps<=9000)&&decide (args.length<=fn.ntmps)&&fT c)=true) (hp:(args.all fun s=>bg (aO s))=true)
 (h:d P fn.ntmps c (Aw P fn.results.toList R) (jx args) [] none):Hi P fi args R:=by
 simp only[Bool.and_eq_true,decide_eq_true_eq] at hc
 obtain⟨⟨⟨hcall,hn⟩,hargs⟩,hok⟩:=hc
 refine⟨hcall,fun w βc ok vs ha hg=>calls_of_wp hf hb ?_⟩
 have hlen:vs.length=args.length:=ha.length.symm
 have ha':RelA P w (fun _=>none) (okB w ok [] (fun _=>none)) args vs:=
  (pH (fun _=>none) hp ha).okmono fun b hb=>⟨fun ⟨i,o,hl,_⟩=>by simp [look] at hl,fun _=>hb⟩
 have hs:Sim P fn.ntmps w ok (fun _=>False) (fun _=>none) (jx args) [] none { tmps:=vs.toArray++Array.replicate (fn.ntmps-vs.toArray.size) undef,defers:=[] } w:=by
  refine⟨by simp;omega,rfl,fun i=>?_,fun i o hl=>by simp [look] at hl,fun i j o o' b hl=>by simp [look] at hl,fun b ⟨i,o,hl,_⟩ _=>by simp [look] at hl,⟨fun b hb=>hb.elim,hg⟩,fun _ _ _=>rfl,Wd.refl _,⟨rfl,rfl,rfl⟩,fun ps hps=>by cases hps⟩
  have:=mX (fn.ntmps-vs.length) ha' i
  have e:(vs.toArray++Array.replicate (fn.ntmps-vs.toArray.size) undef)[i]?=(vs++List.replicate (fn.ntmps-vs.length) undef)[i]?:=by
   rw[<-Array.getElem?_toList];simp
  simp only[Array.getD_eq_getD_getElem?,e];exact this
 refine ga hm hn c hok hs h fun e β' f' L' p' a' w' hs' hk ht h'=>?_
 have fin:r8 P fn.results.toList R f' L' p'->a'.defers=[]/\∃v,(results fn a'.tmps).run P w' = .ok v w' /\
  (fun e w''=>∃b cs xs ty lh,e=Ending.returned (.pointer (some ⟨b,0,none⟩))/\R cs/\fc cs=true/\w.heap.size<=b/\w''.heap[b]?=some (.cells xs ty lh)/\Lh xs.size lh /\
    (∀ β',RelL P w'' β' (fun x=>x≠b/\(x<w.heap.size->ok x)) cs xs.toList)/\(∀x,x<w.heap.size->w''.heap[x]?=w.heap[x]?)/\Wd w w''/\w''.os=w.os/\w''.tape=w.tape/\w''.output=w.output) (.returned v) w':=by
  intro h'
  unfold r8 at h'
  split at h'
  case h_2=>exact h'.elim
  rename_i i hres
  obtain⟨cs,hl,hpl,hR⟩:=h'
  obtain⟨us,hrun,hr⟩:=jh hs' hres
  cases us with
  |nil=>exact hr.elim
  |cons u t=>
   cases t with
   |cons _ _=>exact hr.2.elim
   |nil=>
    obtain⟨b,hb1,rfl⟩:=hr.1
    obtain⟨b2,xs,ty,lh,hb2,hcell,hlh,_,hrel⟩:=hs'.objs i _ hl
    have:b2=b:=by rw[hb1] at hb2;injection hb2 with hb2;exact hb2.symm
    subst this
    have hown:ownB L' β' b2:=⟨i,_,hl,hb1⟩
    have hbs:w.heap.size<=b2:=by
     by_cases hlt:b2<w.heap.size
     ·exact (hs'.old b2 hown hlt).elim
     ·omega
    refine⟨hs'.defers,_,results_run hrun,b2,cs,xs,ty,lh,rfl,hR,mp hpl,hbs,hcell,hlh,fun β2=>?_,fun x hx=>hs'.frame x hx (fun e=>e),hs'.wd,hs'.outer⟩
    exact (ff β2 hpl hrel).okmono fun x hx=>⟨fun e=>hx.1 (by rw[e];exact hown),hx.2⟩
 cases e with
 |normal=>exact fin h'
 |ret=>exact fin h'
 |exit id=>exact h'.elim
 |goto l=>exact h'.elim
 |panic ch=>exact h'.elim
 |outgrown=>exact h'.elim
end
end Go.Dv
namespace Go.Dv
open Go Go.RowKit
open Go.Vc (d6 aV ww cF cG cv kA Plan)
variable [Out]
section
variable {P:Program} {n:Nat} {d:Option Nat} {K:K0} {f:Rg} {L:Ob} {p:Po} {t s:TypeId} {x y:Operand} {k yk:IntKind} {a b:Int} {u v:ByteArray} {i j:Bool}
theorem bb {s:Sem Value} {v:Value} (h:∀w,s.run P w = .ok v w) (hk:d6 v):bR P n d s K f L p=K (put n f d (.c (.v v))) L p:=by
 unfold bR
 apply propext
 constructor
 ·rintro⟨v',hv,_,hk'⟩
  have:=(hv default).symm.trans (h default)
  injection this with e _
  subst e;exact hk'
 ·exact fun hk'=>⟨v,h,hk,hk'⟩
theorem EA:bR P n d (do eqGuard .add t x y (.int k a) (.int k b);binOp .add t (.int k a) (.int k b)) K f L p=K (put n f d (.c (.v (.int k (k.wrap (a+b)))))) L p:=
 bb (fun w=>by rw[aV rfl];simp [binOp,Op.intArith]) trivial
theorem EB:bR P n d (do eqGuard .sub t x y (.int k a) (.int k b);binOp .sub t (.int k a) (.int k b)) K f L p=K (put n f d (.c (.v (.int k (k.wrap (a-b)))))) L p:=
 bb (fun w=>by rw[aV rfl];simp [binOp,Op.intArith]) trivial
theorem EC:bR P n d (do eqGuard .mul t x y (.int k a) (.int k b);binOp .mul t (.int k a) (.int k b)) K f L p=K (put n f d (.c (.v (.int k (k.wrap (a*b)))))) L p:=
 bb (fun w=>by rw[aV rfl];simp [binOp,Op.intArith]) trivial
theorem ED:bR P n d (do eqGuard .lss t x y (.int k a) (.int k b);binOp .lss t (.int k a) (.int k b)) K f L p=K (put n f d (.c (.v (.bool (decide (a<b)))))) L p:=
 bb (fun w=>by rw[aV rfl];simp [binOp,Op.intCmp]) trivial
theorem EE:bR P n d (do eqGuard .leq t x y (.int k a) (.int k b);binOp .leq t (.int k a) (.int k b)) K f L p=K (put n f d (.c (.v (.bool (decide (a<=b)))))) L p:=
 bb (fun w=>by rw[aV rfl];simp [binOp,Op.intCmp]) trivial
theorem EF:bR P n d (do eqGuard .gtr t x y (.int k a) (.int k b);binOp .gtr t (.int k a) (.int k b)) K f L p=K (put n f d (.c (.v (.bool (decide (b<a)))))) L p:=
 bb (fun w=>by rw[aV rfl];simp [binOp,Op.intCmp]) trivial
theorem EG:bR P n d (do eqGuard .geq t x y (.int k a) (.int k b);binOp .geq t (.int k a) (.int k b)) K f L p=K (put n f d (.c (.v (.bool (decide (b<=a)))))) L p:=
 bb (fun w=>by rw[aV rfl];simp [binOp,Op.intCmp]) trivial
theorem EH:bR P n d (do eqGuard .eql t x y (.int k a) (.int k b);binOp .eql t (.int k a) (.int k b)) K f L p=K (put n f d (.c (.v (.bool (decide (a=b)))))) L p:=
 bb (fun w=>by rw[aV rfl];simp [binOp,Op.intCmp];rfl) trivial
theorem EI:bR P n d (do eqGuard .neq t x y (.int k a) (.int k b);binOp .neq t (.int k a) (.int k b)) K f L p=K (put n f d (.c (.v (.bool (!decide (a=b)))))) L p:=
 bb (fun w=>by rw[aV rfl];simp [binOp,Op.intCmp];rfl) trivial
theorem Cq:bR P n d (do eqGuard .eql t x y (.string u) (.string v);binOp .eql t (.string u) (.string v)) K f L p=K (put n f d (.c (.v (.bool (decide (u=v)))))) L p:=
 bb (fun w=>by rw[aV rfl];simp [binOp,Op.stringOp,kA]) trivial
theorem Cr:bR P n d (do eqGuard .neq t x y (.string u) (.string v);binOp .neq t (.string u) (.string v)) K f L p=K (put n f d (.c (.v (.bool (!decide (u=v)))))) L p:=
 bb (fun w=>by rw[aV rfl];simp [binOp,Op.stringOp,kA]) trivial
theorem Cs:bR P n d (do eqGuard .lss t x y (.string u) (.string v);binOp .lss t (.string u) (.string v)) K f L p=K (put n f d (.c (.v (.bool (Op.bytesLess u.toList v.toList))))) L p:=
 bb (fun w=>by rw[aV rfl];simp [binOp,Op.stringOp]) trivial
theorem Ct:bR P n d (do eqGuard .gtr t x y (.string u) (.string v);binOp .gtr t (.string u) (.string v)) K f L p=K (put n f d (.c (.v (.bool (!(Op.bytesLess u.toList v.toList||decide (u=v))))))) L p:=
 bb (fun w=>by rw[aV rfl];simp [binOp,Op.stringOp,kA]) trivial
theorem kU (h:u.size+v.size<=9223372036854775807):bR P n d (do eqGuard .add t x y (.string u) (.string v);binOp .add t (.string u) (.string v)) K f L p=K (put n f d (.c (.v (.string (u++v))))) L p:=
 bb (fun w=>by rw[aV rfl];have:¬(9223372036854775807<(u.size:Int)+(v.size:Int)):=(by omega);simp [binOp,Op.stringOp,IntKind.max,IntKind.bits,IntKind.signed];omega) (by show (u++v).size<=maxLen;rw[ByteArray.size_append];simp only[maxLen];omega)
theorem Cu (h:P.underlying t=some .bool):bR P n d (do eqGuard .eql t x y (.bool i) (.bool j);binOp .eql t (.bool i) (.bool j)) K f L p=K (put n f d (.c (.v (.bool (i==j))))) L p:=
 bb (fun w=>by rw[aV rfl];exact run_eql_bool w t i j h) trivial
theorem Cw (h:P.underlying t=some .bool):bR P n d (do eqGuard .neq t x y (.bool i) (.bool j);binOp .neq t (.bool i) (.bool j)) K f L p=K (put n f d (.c (.v (.bool (!(i==j)))))) L p:=
 bb (fun w=>by rw[aV rfl];exact run_neq_bool w t i j h) trivial
theorem EJ:bR P n d (Op.unary .not (.bool i)) K f L p=K (put n f d (.c (.v (.bool (!i))))) L p:=bb (fun w=>by simp [Op.unary]) trivial
theorem EK:bR P n d (Op.unary .neg (.int k a)) K f L p=K (put n f d (.c (.v (.int k (k.wrap (-a)))))) L p:=bb (fun w=>by simp [Op.unary,Op.intArith]) trivial
theorem vN (h:b≠0):bR P n d (do eqGuard .rem t x y (.int k a) (.int k b);binOp .rem t (.int k a) (.int k b)) K f L p=K (put n f d (.c (.v (.int k (a.tmod b))))) L p:=
 bb (fun w=>by rw[aV rfl];simp [binOp,Op.intDiv,h]) trivial
theorem EL (h:b≠0):bR P n d (do eqGuard .quo t x y (.int k a) (.int k b);binOp .quo t (.int k a) (.int k b)) K f L p=K (put n f d (.c (.v (.int k (k.wrap (a.tdiv b)))))) L p:=
 bb (fun w=>by rw[aV rfl];simp [binOp,Op.intDiv,h]) trivial
theorem EM (h:0<=b):bR P n d (do eqGuard .shr t x y (.int k a) (.int yk b);binOp .shr t (.int k a) (.int yk b)) K f L p=K (put n f d (.c (.v (.int k (cF k a b))))) L p:=
 bb (fun w=>by rw[aV rfl];have:¬b<0:=(by omega);simp [binOp,Op.shift,this,cF]) trivial
theorem EN:bR P n d (do eqGuard .xor t x y (.int k a) (.int k b);binOp .xor t (.int k a) (.int k b)) K f L p=K (put n f d (.c (.v (.int k (cG k a b))))) L p:=
 bb (fun w=>by rw[aV rfl];simp [binOp,Op.intBits,cG]) trivial
theorem EO:bR P n d (do eqGuard .and t x y (.int k a) (.int k b);binOp .and t (.int k a) (.int k b)) K f L p=K (put n f d (.c (.v (.int k (cv k a b))))) L p:=
 bb (fun w=>by rw[aV rfl];simp [binOp,Op.intBits,cv]) trivial
theorem Cy (hs:(P.underlying s).isSome=true) (hd:P.underlying t=some (.int (P.intKind t))):bR P n d (convert s t (.int k a)) K f L p=K (put n f d (.c (.v (.int (P.intKind t) ((P.intKind t).wrap a))))) L p:=
 bb (fun w=>run_convert_int w s t k a hs hd) trivial
theorem kf (h:d6 (.string u)) (i j:Nat):d6 (.string (u.extract i j)):=by
 have h:u.size<=maxLen:=h
 show (u.extract i j).size<=maxLen
 rw[ByteArray.size_extract];omega
theorem EP (h:P.underlying t=some .string) (hu:d6 (.string u)) (h0:0<=a) (h1:a<=b) (h2:b<=u.size):bR P n d (Instr.sliceAt t (.string u) (some (.int k a)) (some (.int yk b)) none) K f L p=K (put n f d (.c (.v (.string (u.extract a.toNat b.toNat))))) L p:=
 bb (fun w=>by rw[run_sliceAt_string w t _ _ _ _ h];exact run_slice_string w t u k yk a b h h0 h1 h2) (kf hu _ _)
theorem Cz (h:P.underlying t=some .string) (hu:d6 (.string u)) (h0:0<=a) (h2:a<=u.size):bR P n d (Instr.sliceAt t (.string u) (some (.int k a)) none none) K f L p=K (put n f d (.c (.v (.string (u.extract a.toNat u.size))))) L p:=
 bb (fun w=>by rw[run_sliceAt_string w t _ _ _ _ h,run_slice_string_from_if w t u k a h,if_pos ⟨h0,h2⟩]) (kf hu _ _)
theorem GD (h:P.underlying t=some .string) (hu:d6 (.string u)) (h0:0<=b) (h2:b<=u.size):bR P n d (Instr.sliceAt t (.string u) none (some (.int k b)) none) K f L p=K (put n f d (.c (.v (.string (u.extract 0 b.toNat))))) L p:=
 bb (fun w=>by rw[run_sliceAt_string w t _ _ _ _ h,run_slice_string_to_if w t u k b h,if_pos ⟨h0,h2⟩]) (kf hu _ _)
theorem u0 {xs ys:Array Value} {c:Bool} (hm:P.eqGuardType P.depth t=false)
 (h:∀w,(Op.equalIn 10000 t (.agg xs) (.agg ys)).run P w = .ok c w):bR P n d (do eqGuard .eql t x y (.agg xs) (.agg ys);binOp .eql t (.agg xs) (.agg ys)) K f L p=K (put n f d (.c (.v (.bool c)))) L p:=
 bb (fun w=>by simp only[Sem.run_bind,run_eqGuard_agg w _ _ _ _ _ _ hm,Result.andThen_ok,run_eql_struct,h]) trivial
theorem dc {xs ys:Array Value} {c:Bool} (hm:P.eqGuardType P.depth t=false)
 (h:∀w,(Op.equalIn 10000 t (.agg xs) (.agg ys)).run P w = .ok c w):bR P n d (do eqGuard .neq t x y (.agg xs) (.agg ys);binOp .neq t (.agg xs) (.agg ys)) K f L p=K (put n f d (.c (.v (.bool (!c))))) L p:=
 bb (fun w=>by simp only[Sem.run_bind,run_eqGuard_agg w _ _ _ _ _ _ hm,Result.andThen_ok,run_neq_struct,h]) trivial
end
def kV:List Nat->Plan
 | []=>.done
 |x::r=>if x % 2=0 then .take (x / 2) (kV r) else .br (x / 2) (kV r) .nobr
end Go.Dv
namespace Go.Dv
open Go
open Go.Vc (D guardSlot Plan inX)
variable [Out]
section
variable (P:Program) (n:Nat) (K:KE) (f g:Rg) (L:Ob) (p:Po)
theorem IR (b:Bool):zn (.bool b) = .c (.v (.bool b)):=rfl
theorem IU (k:IntKind) (z:Int):zn (.int k z) = .c (.v (.int k z)):=rfl
theorem IV (s:ByteArray):zn (.string s) = .c (.v (.string s)):=rfl
theorem IW (a:Option Addr):zn (.pointer a) = .c (.v (.pointer a)):=rfl
theorem IX (a:Option Addr) (l c:Nat):zn (.slice a l c) = .c (.v (.slice a l c)):=rfl
theorem IY:zn .nilFunc = .c (.v .nilFunc):=rfl
theorem IZ:zn .nilIface = .c (.v .nilIface):=rfl
theorem J0 (xs:List Value):zn (.agg xs.toArray) = .ag (xs.map .v):=by simp [zn]
theorem J1 (t:TypeId) (v:Value):zn (.iface t v) = .c (.v (.iface t v)):=rfl
theorem J2 (k:FloatKind) (z:Nat):zn (.float k z) = .c (.v (.float k z)):=rfl
theorem a0:d P n .skip K f L p=K .normal f L p:=rfl
theorem a1 (l:Nat):d P n (.label l) K f L p=K .normal f L p:=rfl
theorem a2 (id:Nat) (ops:Array Oper):d P n (.region id ops false) K f L p=dl P n ops (K .normal) ops.toList f L p:=rfl
theorem a3 (x y:Code):d P n (.seq x y) K f L p=d P n x (fun e=>match e with | .normal=>d P n y K|e=>K e) f L p:=rfl
theorem a4 (c:Operand) (x y:Code):d P n (.cond c x y) K f L p=match ev f c with | .c (.v (.bool t))=>(t=true->d P n x K f L p)/\(t=false->d P n y K f L p)|_=>False:=rfl
theorem a5 (id:Nat) (c:Code):d P n (.block id c) K f L p=d P n c (fun e=>match e with | .exit id'=>if id'=id then K .normal else K (.exit id')|e=>K e) f L p:=rfl
theorem a6 (c:Code):d P n (.loop c) K f L p=dLoop (Go.Vc.dsts c) (d P n c) K f L p:=rfl
theorem a7 (id:Nat):d P n (.exit id) K f L p=K (.exit id) f L p:=rfl
theorem a8:d P n .ret K f L p=K .ret f L p:=rfl
theorem a9 (ops:Array Oper) (Q:K0):dl P n ops Q [] f L p=Q f L p:=rfl
theorem J3 (ops:Array Oper) (Q:K0) (dst:Option Nat) (op:Op) (ty:TypeId) (pos:String) (af:Array Edge) (gd:Option (Nat×Bool)) (r:List Oper):dl P n ops Q (⟨dst,op,ty,pos,af,gd⟩::r) f L p=fQ n ops ⟨dst,op,ty,pos,af,gd⟩ (rN (po P) P n ⟨dst,op,ty,pos,af,gd⟩) (dl P n ops Q r) f L p:=rfl
theorem J4 (s:Nat) (v:S) (t:Nat):dT f s v t=if t=s then v else f t:=rfl
theorem J5 (ws:List Nat) (s:Nat):bT ws f g s=if Go.Vc.inN ws s=true then g s else kS ws [] (f s):=rfl
theorem J6 (ds is:List Nat) (s:Nat):kR ds is f s=kS ds is (f s):=rfl
theorem J7 (i m:Nat) (x:C) (s:Nat):fR i m x f s=fS i m x (f s):=rfl
theorem J8 (i j s:Nat):Ey i j f s=yr i j (f s):=rfl
theorem J9 (s:Nat):jx [] s = .tu []:=rfl
theorem Ja (v:S) (vs:List S):jx (v::vs) 0=v:=rfl
theorem Jb (v:S) (vs:List S) (s:Nat):jx (v::vs) (s+1)=jx vs s:=rfl
theorem a20 (rs:List ResultVar) (k:Nat) (R:S->List (List C)->Prop):Cm P rs k R .normal f L p=vK P rs k R f L p:=rfl
theorem a21 (rs:List ResultVar) (k:Nat) (R:S->List (List C)->Prop):Cm P rs k R .ret f L p=vK P rs k R f L p:=rfl
theorem Hx (rs:List ResultVar) (R:List C->Prop):Aw P rs R .normal f L p=r8 P rs R f L p:=rfl
theorem Hy (rs:List ResultVar) (R:List C->Prop):Aw P rs R .ret f L p=r8 P rs R f L p:=rfl
theorem Hz (rs:List ResultVar) (R:List C->List C×Bool->Prop):Dx P rs R .normal f L p=xp P rs R f L p:=rfl
theorem HA (rs:List ResultVar) (R:List C->List C×Bool->Prop):Dx P rs R .ret f L p=xp P rs R f L p:=rfl
theorem a22 (id:Nat) (ops:Array Oper):d P n (.region id ops true) K f L p=dDrawn P n ops (K .normal) f L p:=rfl
theorem Jc (ops:Array Oper) (xs:List Nat) (Q:K0):eC P n ops xs Q .done f L p=Q f L p:=rfl
theorem a24 (ops:Array Oper) (xs:List Nat) (Q:K0):eC P n ops xs Q .nobr f L p=True:=rfl
theorem a25 (ops:Array Oper) (xs:List Nat) (Q:K0) (i:Nat) (r:Plan):eC P n ops xs Q (.take i r) f L p=match ops.toList[i]? with
 |some o=>fQ n ops o (gZ (po P) P n o) (eC P n ops xs Q r) f L p
 |none=>False:=by rw[Array.getElem?_toList,eC]<;>rfl
theorem Jd (ops:Array Oper) (xs:List Nat) (Q:K0) (i:Nat) (r q:Plan):eC P n ops xs Q (.br i r q) f L p=((match ops.toList[i]? with
 |some o=>fQ n ops o (rN (CallQ (!inX xs o) P) P n o) (eC P n ops xs Q r) f L p
 | none=>False)/\eC P n ops xs Q q f L p):=by rw[Array.getElem?_toList,eC]<;>rfl
theorem Je (ops:Array Oper) (T:K0->K0) (Q:K0) (dst:Option Nat) (op:Op) (ty:TypeId) (pos:String) (af:Array Edge):fQ n ops ⟨dst,op,ty,pos,af,none⟩ T Q f L p=T Q f L p:=rfl
theorem Jf (ops:Array Oper) (T:K0->K0) (Q:K0) (dst:Option Nat) (op:Op) (ty:TypeId) (pos:String) (af:Array Edge) (j:Nat):fQ n ops ⟨dst,op,ty,pos,af,some (j,true)⟩ T Q f L p =
 match guardSlot ops j with
  |none=>False
  |some g=>match f g with
   |.c (.v (.bool b))=>Gd b (T Q) (dT f g (.c (.v (.bool true)))) Q (put n (dT f g (.c (.v (.bool false)))) dst (.tu [])) L p
   |.tu []=>Q (put n f dst (.tu [])) L p
   |_=>False:=rfl
theorem a31 (ops:Array Oper) (T:K0->K0) (Q:K0) (dst:Option Nat) (op:Op) (ty:TypeId) (pos:String) (af:Array Edge) (j:Nat):fQ n ops ⟨dst,op,ty,pos,af,some (j,false)⟩ T Q f L p =
 match guardSlot ops j with
  |none=>False
  |some g=>match f g with
   |.c (.v (.bool b))=>Gd b Q (put n (dT f g (.c (.v (.bool true)))) dst (.tu [])) (T Q) (dT f g (.c (.v (.bool false)))) L p
   |.tu []=>Q (put n f dst (.tu [])) L p
   |_=>False:=by
 rw[fQ];simp only[Bool.not_false]
 cases guardSlot ops j with
 |none=>rfl
 |some g=>cases h:f g with
  |ag _=>simp [h]
  |tu xs=>cases xs<;>simp [h]
  |c x=>cases x with
   |v y=>cases y<;>simp [h,Gd,And.comm]
   |_=>simp [h]
theorem Jg (KA:K0) (fA:Rg) (KB:K0) (fB:Rg):Gd true KA fA KB fB L p=KA fA L p:=by simp [Gd]
theorem Jh (KA:K0) (fA:Rg) (KB:K0) (fB:Rg):Gd false KA fA KB fB L p=KB fB L p:=by simp [Gd]
theorem Ji (ops:Array Oper) (j:Nat):guardSlot ops j=(ops.toList[j]?).bind (·.dst):=by rw[guardSlot,Array.getElem?_toList]
theorem c0 (k:IntKind) (x:Int):yi (.v (.int k x))=some (.lit (.int k x),some []):=rfl
theorem c1 (x:Bool):yi (.v (.bool x))=some (.lit (.bool x),some []):=rfl
theorem c2 (x:ByteArray):yi (.v (.string x))=some (.lit (.string x),some []):=rfl
theorem c3:yi (.v (.slice none 0 0))=some (.sl 0 [],some []):=rfl
theorem c4 (m:Nat) (ds:List D) (F:Fp):yi (.sl m ds F)=some (.sl m ds,F):=rfl
theorem c5 (x:Value):bQ (.c (.v x))=some [.v x]:=rfl
theorem c6 (m:Nat) (ds:List D) (F:Fp):bQ (.c (.sl m ds F))=some [.sl m ds F]:=rfl
theorem c7 (i m:Nat):bQ (.c (.s i m))=some [.s i m]:=rfl
theorem c8 (i m:Nat):bQ (.c (.p i m))=some [.p i m]:=rfl
theorem c9 (h:FuncId) (a b:List Nat):bQ (.c (.fn h a b))=some [.fn h a b]:=rfl
theorem G5 (cs:List C):bQ (.ag cs)=some cs:=rfl
theorem CA (ds:List D):bQ (.c (.q ds))=some [.q ds]:=rfl
theorem e0 (ds is:List Nat):∀l:List D,kCs ds is (ar l)=ar l
 | []=>rfl
 |x::r=>by cases x<;>simp [ar,qq,kCs,kC,e0 ds is r]
theorem e1 (i m:Nat) (x:C):∀l:List D,fCs i m x (ar l)=ar l
 | []=>rfl
 |y::r=>by cases y<;>simp [ar,qq,fCs,fC,e1 i m x r]
theorem e2 (i j:Nat):∀l:List D,iR i j (ar l)=ar l
 | []=>rfl
 |y::r=>by cases y<;>simp [ar,qq,iR,nV,e2 i j r]
theorem e3:∀l:List D,ownsC (ar l)=none
 | []=>rfl
 |y::r=>by cases y<;>simp [ar,qq,ownsC,e3 r]
theorem e4:∀(b:Nat) (l:List D),expC b (ar l)=ar l
 |_,[]=>rfl
 |b,y::r=>by cases y<;>simp [ar,qq,expC,e4 _ r]
theorem e5:∀(b:Nat) (l:List D),expO b (ar l)=[]
 |_,[]=>rfl
 |b,y::r=>by cases y<;>simp [ar,qq,expO,e5 _ r]
theorem e6:∀(l m:List D),lK (ar l) (ar m)=[]
 | [],_=>by simp [ar,lK]
 |x::r,[]=>by simp [ar,lK]
 |x::r,y::t=>by cases x<;>cases y<;>simp [ar,qq,lK,qr,e6 r t]
theorem e7:∀(l m:List D),iN (ar l) (ar m)=[]
 | [],_=>by simp [ar,iN]
 |x::r,[]=>by simp [ar,iN]
 |x::r,y::t=>by cases x<;>cases y<;>simp [ar,qq,iN,qt,e7 r t]
theorem e8:∀l:List D,flatL (ar l)=true
 | []=>rfl
 |y::r=>by cases y<;>simp [ar,qq,flatL,fW,e8 r]
theorem e9:∀l:List D,fpL (ar l)=[]
 | []=>rfl
 |y::r=>by cases y<;>simp [ar,qq,fpL,tM,e9 r]
theorem EQ:∀l:List D,(ar l).length=l.length
 | []=>rfl
 |y::r=>by simp [ar,EQ r]
theorem HB (ρ:List (Nat×Nat)):∀l:List D,uJ ρ L (ar l) (ar l)=True
 | []=>by simp [ar,uJ]
 |x::r=>by
  cases x with
  |lit v=>simp only[ar,qq,uJ,HB ρ r,and_true];cases v<;>simp [qm]
  |sl m ds=>simp [ar,qq,uJ,qm,HB ρ r]
theorem AA (x:D):goodC (qq x)=true:=by cases x<;>rfl
theorem IF:∀l:List D,(ar l).all goodC=true
 | []=>rfl
 |y::r=>by simp only[ar,List.all_cons,AA,IF r,Bool.and_self]
def Hj:List D->Fp
 | []=>some []
 |.lit _::r=>Hj r
 |.sl .. :: _=>none
end
end Go.Dv
namespace Go.Dv
open Go
open Go.Vc (D TS sizeTS splice dstsOps dsts inX zeroOk inN tyS elemS an gO aP lenK gP guardSlot Plan d6 cF cG cv)
def z0:=ab @IR (ab @IU (ab @IV (ab @IW (ab @IX (ab @IY (ab @IZ (ab @J0 (ab @J1 (ab @J2 (ab @a0 (ab @a1 (ab @a2 (ab @a3 (ab @a4 (ab @a5 (ab @a6 (ab @a7 (ab @a8 (ab @a9 (ab @J3 (ab @J4 (ab @J5 @J6))))))))))))))))))))))
def z1:=ab @J7 (ab @J8 (ab @J9 (ab @Ja (ab @Jb (ab @a20 (ab @a21 (ab @Hx (ab @Hy (ab @Hz (ab @HA (ab @a22 (ab @Jc (ab @a24 (ab @a25 (ab @Jd (ab @Je (ab @Jf (ab @a31 (ab @Jg (ab @Jh (ab @Ji (ab @c0 @c1))))))))))))))))))))))
def z2:=ab @c2 (ab @c3 (ab @c4 (ab @c5 (ab @c6 (ab @c7 (ab @c8 (ab @c9 (ab @G5 (ab @CA (ab @e0 (ab @e1 (ab @e2 (ab @e3 (ab @e4 (ab @e5 (ab @e6 (ab @e7 (ab @e8 (ab @e9 (ab @EQ (ab @HB (ab @IF @EA))))))))))))))))))))))
def z3:=ab @EB (ab @EC (ab @ED (ab @EE (ab @EF (ab @EG (ab @EH (ab @EI (ab @Cq (ab @Cr (ab @Cs (ab @Ct (ab @kU (ab @Cu (ab @Cw (ab @EJ (ab @EK (ab @vN (ab @EL (ab @EM (ab @EN (ab @EO (ab @Cy @EP))))))))))))))))))))))
def z4:=ab @Cz (ab @GD (ab @gZ.eq_1 (ab @rN.eq_1 (ab @Et.eq_1 (ab @Et.eq_2 (ab @Dt.eq_1 (ab @fc.eq_1 (ab @fc.eq_2 (ab @fc.eq_3 (ab @mg.eq_1 (ab @mg.eq_2 (ab @mg.eq_3 (ab @FX.eq_1 (ab @FX.eq_2 (ab @pf.eq_1 (ab @pf.eq_2 (ab @dq.eq_1 (ab @dq.eq_2 (ab @fE.eq_1 (ab @fE.eq_2 (ab @fE.eq_3 (ab @qQ.eq_1 @qR.eq_1))))))))))))))))))))))
def z5:=ab @qR.eq_2 (ab @qR.eq_3 (ab @Ep.eq_1 (ab @Ep.eq_2 (ab @yj.eq_1 (ab @yj.eq_2 (ab @vw.eq_1 (ab @jT.eq_1 (ab @jT.eq_2 (ab @jT.eq_3 (ab @jT.eq_4 (ab @jT.eq_5 (ab @md.eq_1 (ab @parts.eq_1 (ab @rC.eq_1 (ab @rD.eq_1 (ab @gG.eq_1 (ab @gG.eq_2 (ab @vz.eq_1 (ab @vz.eq_2 (ab @vz.eq_3 (ab @vz.eq_4 (ab @vz.eq_5 @fF.eq_1))))))))))))))))))))))
def z6:=ab @fF.eq_2 (ab @fF.eq_3 (ab @fe.eq_1 (ab @fe.eq_2 (ab @fe.eq_3 (ab @pg.eq_1 (ab @pg.eq_2 (ab @pg.eq_3 (ab @pg.eq_4 (ab @ph.eq_1 (ab @ph.eq_2 (ab @eI.eq_1 (ab @eI.eq_2 (ab @eI.eq_3 (ab @me.eq_1 (ab @me.eq_2 (ab @me.eq_3 (ab @tq.eq_1 (ab @tq.eq_2 (ab @tq.eq_3 (ab @tz.eq_1 (ab @tz.eq_2 (ab @tz.eq_3 @Er.eq_1))))))))))))))))))))))
def z7:=ab @pi.eq_1 (ab @pi.eq_2 (ab @pi.eq_3 (ab @Ds.eq_1 (ab @Ds.eq_2 (ab @Ds.eq_3 (ab @Ds.eq_4 (ab @jS.eq_1 (ab @jS.eq_2 (ab @iI.eq_1 (ab @iI.eq_2 (ab @ar.eq_1 (ab @ar.eq_2 (ab @qq.eq_1 (ab @qq.eq_2 (ab @dsOf.eq_1 (ab @dsOf.eq_2 (ab @lG.eq_1 (ab @lG.eq_2 (ab @fC.eq_1 (ab @fC.eq_2 (ab @fC.eq_3 (ab @fC.eq_4 @fCs.eq_1))))))))))))))))))))))
def z8:=ab @fCs.eq_2 (ab @Gz.eq_1 (ab @Gz.eq_2 (ab @fS.eq_1 (ab @fS.eq_2 (ab @fS.eq_3 (ab @fO.eq_1 (ab @fO.eq_2 (ab @fL.eq_1 (ab @fL.eq_2 (ab @frz.eq_1 (ab @ownsC.eq_1 (ab @ownsC.eq_2 (ab @ownsC.eq_3 (ab @vu.eq_1 (ab @vu.eq_2 (ab @goodC.eq_1 (ab @goodC.eq_2 (ab @goodC.eq_3 (ab @goodC.eq_4 (ab @kC.eq_1 (ab @kC.eq_2 (ab @kC.eq_3 @kC.eq_4))))))))))))))))))))))
def z9:=ab @kCs.eq_1 (ab @kCs.eq_2 (ab @Dr.eq_1 (ab @Dr.eq_2 (ab @kS.eq_1 (ab @kS.eq_2 (ab @kS.eq_3 (ab @kO.eq_1 (ab @kO.eq_2 (ab @kL.eq_1 (ab @kL.eq_2 (ab @bH.eq_1 (ab @nS.eq_1 (ab @nS.eq_2 (ab @fam.eq_1 (ab @look.eq_1 (ab @look.eq_2 (ab @rem.eq_1 (ab @rem.eq_2 (ab @iH.eq_1 (ab @put.eq_1 (ab @put.eq_2 (ab @ev.eq_1 @ev.eq_2))))))))))))))))))))))
def z10:=ab @ev.eq_3 (ab @ev.eq_4 (ab @expC.eq_1 (ab @expC.eq_2 (ab @expC.eq_3 (ab @expO.eq_1 (ab @expO.eq_2 (ab @expO.eq_3 (ab @tL.eq_1 (ab @tL.eq_2 (ab @aO.eq_1 (ab @aO.eq_2 (ab @aO.eq_3 (ab @expS.eq_1 (ab @expS.eq_2 (ab @expS.eq_3 (ab @expA.eq_1 (ab @expA.eq_2 (ab @gH.eq_1 (ab @gH.eq_2 (ab @dG.eq_1 (ab @dG.eq_2 (ab @lent.eq_1 @back.eq_1))))))))))))))))))))))
def z11:=ab @tM.eq_1 (ab @tM.eq_2 (ab @tM.eq_3 (ab @fpL.eq_1 (ab @fpL.eq_2 (ab @pn.eq_1 (ab @pn.eq_2 (ab @fps.eq_1 (ab @fW.eq_1 (ab @fW.eq_2 (ab @fW.eq_3 (ab @fW.eq_4 (ab @fW.eq_5 (ab @fW.eq_6 (ab @flatL.eq_1 (ab @flatL.eq_2 (ab @jv.eq_1 (ab @jv.eq_2 (ab @flat.eq_1 (ab @lk.eq_1 (ab @lk.eq_2 (ab @Al.eq_1 (ab @Al.eq_2 @qr.eq_1))))))))))))))))))))))
def z12:=ab @qr.eq_2 (ab @qr.eq_3 (ab @qr.eq_4 (ab @lK.eq_1 (ab @lK.eq_2 (ab @Cf.eq_1 (ab @Cf.eq_2 (ab @Cf.eq_3 (ab @Cg.eq_1 (ab @Cg.eq_2 (ab @mm.eq_1 (ab @mm.eq_2 (ab @mm.eq_3 (ab @GA.eq_1 (ab @GA.eq_2 (ab @Am.eq_1 (ab @Am.eq_2 (ab @rho.eq_1 (ab @vD.eq_1 (ab @vD.eq_2 (ab @vD.eq_3 (ab @qm.eq_1 (ab @qm.eq_2 @qm.eq_3))))))))))))))))))))))
def z13:=ab @qm.eq_4 (ab @qm.eq_5 (ab @qm.eq_6 (ab @qm.eq_7 (ab @qm.eq_8 (ab @qm.eq_9 (ab @qm.eq_10 (ab @qm.eq_11 (ab @qm.eq_12 (ab @uJ.eq_1 (ab @uJ.eq_2 (ab @uJ.eq_3 (ab @FY.eq_1 (ab @FY.eq_2 (ab @FY.eq_3 (ab @leA.eq_1 (ab @leA.eq_2 (ab @leA.eq_3 (ab @FZ.eq_1 (ab @FZ.eq_2 (ab @FZ.eq_3 (ab @leB.eq_1 (ab @leB.eq_2 @leB.eq_3))))))))))))))))))))))
def z14:=ab @qt.eq_1 (ab @qt.eq_2 (ab @iN.eq_1 (ab @iN.eq_2 (ab @An.eq_1 (ab @An.eq_2 (ab @An.eq_3 (ab @tN.eq_1 (ab @tN.eq_2 (ab @l4.eq_1 (ab @l4.eq_2 (ab @l4.eq_3 (ab @brw.eq_1 (ab @nodupB.eq_1 (ab @nodupB.eq_2 (ab @disjB.eq_1 (ab @disjB.eq_2 (ab @jW.eq_1 (ab @jW.eq_2 (ab @jW.eq_3 (ab @fX.eq_1 (ab @fX.eq_2 (ab @iO.eq_1 @iO.eq_2))))))))))))))))))))))
def z15:=ab @mR.eq_1 (ab @mR.eq_2 (ab @nk.eq_1 (ab @mS.eq_1 (ab @mS.eq_2 (ab @yp.eq_1 (ab @yp.eq_2 (ab @after.eq_1 (ab @hJ.eq_1 (ab @hJ.eq_2 (ab @yq.eq_1 (ab @yq.eq_2 (ab @nV.eq_1 (ab @nV.eq_2 (ab @nV.eq_3 (ab @nV.eq_4 (ab @iR.eq_1 (ab @iR.eq_2 (ab @tY.eq_1 (ab @tY.eq_2 (ab @yr.eq_1 (ab @yr.eq_2 (ab @yr.eq_3 @Au.eq_1))))))))))))))))))))))
def z16:=ab @Au.eq_2 (ab @px.eq_1 (ab @px.eq_2 (ab @vH.eq_1 (ab @vH.eq_2 (ab @io.eq_1 (ab @io.eq_2 (ab @pB.eq_1 (ab @pB.eq_2 (ab @pB.eq_3 (ab @Ew.eq_1 (ab @Ew.eq_2 (ab @vI.eq_1 (ab @vI.eq_2 (ab @fG.eq_1 (ab @fG.eq_2 (ab @fG.compsS.eq_1 (ab @fG.compsS.eq_2 (ab @fG.compsS.eq_3 (ab @fG.compsS.eq_4 (ab @Ck.eq_1 (ab @Ck.eq_2 (ab @Ez.eq_1 @Ez.eq_2))))))))))))))))))))))
def z17:=ab @Ez.eq_3 (ab @leR.eq_1 (ab @leR.eq_2 (ab @leR.eq_3 (ab @leR.eq_4 (ab @yw.eq_1 (ab @yw.eq_2 (ab @vJ.eq_1 (ab @vJ.eq_2 (ab @vJ.eq_3 (ab @vJ.eq_4 (ab @rhoE.eq_1 (ab @rP.eq_1 (ab @rP.eq_2 (ab @rQ.eq_1 (ab @rQ.eq_2 (ab @rQ.eq_3 (ab @rQ.eq_4 (ab @brwE.eq_1 (ab @inPool.eq_1 (ab @inPool.eq_2 (ab @vE.eq_1 (ab @vE.eq_2 @vK.eq_1))))))))))))))))))))))
def z18:=ab @r8.eq_1 (ab @xp.eq_1 (ab @pC.eq_1 (ab @pC.eq_2 (ab @pC.eq_3 (ab @pC.eq_4 (ab @Co.eq_1 (ab @Co.eq_2 (ab @je.eq_1 (ab @je.eq_2 (ab @je.eq_3 (ab @bg.eq_1 (ab @bg.eq_2 (ab @tA.eq_1 (ab @tA.eq_2 (ab @tA.eq_3 (ab @po.eq_1 (ab @Hj.eq_1 (ab @Hj.eq_2 (ab @Hj.eq_3 (ab @kV.eq_1 (ab @kV.eq_2 (ab @Go.Vc.sizeTS.eq_1 @Go.Vc.sizeTS.eq_2))))))))))))))))))))))
def z19:=ab @Go.Vc.sizeTS.eq_3 (ab @Go.Vc.splice.eq_1 (ab @Go.Vc.dstsOps.eq_1 (ab @Go.Vc.dstsOps.eq_2 (ab @Go.Vc.dsts.eq_1 (ab @Go.Vc.dsts.eq_2 (ab @Go.Vc.dsts.eq_3 (ab @Go.Vc.dsts.eq_4 (ab @Go.Vc.dsts.eq_5 (ab @Go.Vc.dsts.eq_6 (ab @Go.Vc.dsts.eq_7 (ab @Go.Vc.inX.eq_1 (ab @Go.Vc.zeroOk.eq_1 (ab @Go.Vc.inN.eq_1 @Go.Vc.inN.eq_2)))))))))))))
end Go.Dv
namespace Go.Dv
open Go Go.RowKit
open Go.Vc (d6 Plan)
variable [Out]
def dLoop0 (ws:List Nat) (body:KE->K0) (K:KE):K0:=fun f L p0=>∃(L1:Ob) (p1:Po) (I:Rg->Ob->Po->Prop) (μ:Rg->Ob->Po->Nat),SubO L1 L/\PoSub p0 p1/\I (bT ws f f) L1 p1 /\
 ((∀g L2 p2,I (bT ws f g) L2 p2->body (fun e f' L' p'=>match e with
   |.normal=>∃L3 p3,SubO L3 L'/\PoSub p' p3/\I (bT ws f f') L3 p3/\μ (bT ws f f') L3 p3 < μ (bT ws f g) L2 p2
   | e=>K e f' L' p') (bT ws f g) L2 p2) ∨
  (∀g L2 p2,I (bT ws f g) L2 p2->body (fun e f' L' p'=>match e with
   |.normal=>∃hs:List Gh,py ws hs (fun f' L'=>∃L3 p3,SubO L3 L'/\PoSub p' p3/\I (bT ws f f') L3 p3/\μ (bT ws f f') L3 p3 < μ (bT ws f g) L2 p2) f' L'
   | e=>K e f' L' p') (bT ws f g) L2 p2))
section
variable {ws:List Nat} {body:KE->K0} {K:KE} {f:Rg} {L:Ob} {p:Po}
theorem dLoop.gh (gs:List Gh) (h:py ws gs (fun f L=>dLoop0 ws body K f L p) f L):dLoop ws body K f L p:=⟨gs,h⟩
theorem dLoop0.intro (I:Rg->Ob->Po->Prop) (μ:Rg->Ob->Po->Nat) (L1:Ob) (p1:Po) (h0:SubO L1 L/\PoSub p p1/\I (bT ws f f) L1 p1)
 (h1:∀g L2 p2,I (bT ws f g) L2 p2->body (fun e f' L' p'=>match e with
   |.normal=>∃L3 p3,SubO L3 L'/\PoSub p' p3/\I (bT ws f f') L3 p3/\μ (bT ws f f') L3 p3 < μ (bT ws f g) L2 p2
   | e=>K e f' L' p') (bT ws f g) L2 p2):dLoop0 ws body K f L p:=⟨L1,p1,I,μ,h0.1,h0.2.1,h0.2.2,.inl h1⟩
theorem dLoop0.introR (I:Rg->Ob->Po->Prop) (μ:Rg->Ob->Po->Nat) (L1:Ob) (p1:Po) (h0:SubO L1 L/\PoSub p p1/\I (bT ws f f) L1 p1)
 (h1:∀g L2 p2,I (bT ws f g) L2 p2->body (fun e f' L' p'=>match e with
   |.normal=>∃hs:List Gh,py ws hs (fun f' L'=>∃L3 p3,SubO L3 L'/\PoSub p' p3/\I (bT ws f f') L3 p3/\μ (bT ws f f') L3 p3 < μ (bT ws f g) L2 p2) f' L'
   | e=>K e f' L' p') (bT ws f g) L2 p2):dLoop0 ws body K f L p:=⟨L1,p1,I,μ,h0.1,h0.2.1,h0.2.2,.inr h1⟩
theorem dLoop.intro (I:Rg->Ob->Po->Prop) (μ:Rg->Ob->Po->Nat) (L1:Ob) (p1:Po) (h0:SubO L1 L/\PoSub p p1/\I (bT ws f f) L1 p1)
 (h1:∀g L2 p2,I (bT ws f g) L2 p2->body (fun e f' L' p'=>match e with
   |.normal=>∃L3 p3,SubO L3 L'/\PoSub p' p3/\I (bT ws f f') L3 p3/\μ (bT ws f f') L3 p3 < μ (bT ws f g) L2 p2
   | e=>K e f' L' p') (bT ws f g) L2 p2):dLoop ws body K f L p:=⟨[],L1,p1,I,μ,h0.1,h0.2.1,h0.2.2,.inl h1⟩
theorem SubO.nil (L:Ob):SubO [] L:=fun _ h=>by cases h
theorem SubO.cons {i:Nat} {b:O} {A L:Ob} (h:look L i=some b) (k:SubO A L):SubO ((i,b)::A) L:=fun q hq=>by
 rcases List.mem_cons.1 hq with rfl|hq
 ·exact h
 ·exact k q hq
theorem PoSub.none (p:Po):PoSub p none:=fun _ h=>by cases h
theorem PoSub.refl (p:Po):PoSub p p:=fun qs h=>⟨qs,h,Sb.refl _⟩
def eO:S->Int
 |.c (.v (.int _ k))=>k
 |_=>0
theorem dDrawn.intro {P:Program} {n:Nat} {ops:Array Oper} {K:K0} {f:Rg} {L:Ob} {p:Po} (xs:List Nat) (r:Plan) (hp:(Region.noSelect ops&&d9 ops xs ops.size (Array.replicate ops.size false) true r)=true)
 (h:eC P n ops xs K r f L p):dDrawn P n ops K f L p:=by
 simp only[Bool.and_eq_true] at hp
 exact⟨hp.1,xs,r,hp.2,h⟩
end
theorem au {L:Ob} {p:Po} {s r:S} {nobj:Nat} {objs:List (List C)} (h:objs.length=nobj/\flat r objs=true/\leR (rhoE L s r nobj objs) L s (expS 9700 r)/\leB (rhoE L s r nobj objs) L (back r objs) /\
 nodupB ((rhoE L s r nobj objs).map (·.2))=true/\disjB (brwE L (rhoE L s r nobj objs) s r objs) ((rhoE L s r nobj objs).map (·.2))=true/\inPool p (fps r objs)):EndOk L p s r nobj objs:=
 ⟨h.1,h.2.1,h.2.2.1,h.2.2.2.1,h.2.2.2.2.1,h.2.2.2.2.2.1,h.2.2.2.2.2.2⟩
theorem nI:∀l:List Go.Vc.D,bg (ar l)=true
 | []=>rfl
 |x::r=>by cases x<;>simp [ar,qq,bg,je,nI r]
theorem fv:∀a b:List C,bg (a++b)=(bg a&&bg b)
 | [],_=>by simp [bg]
 |x::r,b=>by simp [bg,fv r b,Bool.and_assoc]
section
variable {ρ:List (Nat×Nat)} {L:Ob}
theorem cB:∀ {cs:List C},bg cs=true->(∀b,expC b cs=cs)/\(∀b,expO b cs=[])/\lK cs cs=[]/\iN cs cs=[]/\uJ ρ L cs cs/\flatL cs=true/\fpL cs=[]
 | [],_=>⟨fun _=>rfl,fun _=>rfl,rfl,rfl,trivial,rfl,rfl⟩
 |x::r,h=>by
  simp only[bg,Bool.and_eq_true] at h
  obtain⟨h1,h2,h3,h4,h5,h6,h7⟩:=cB h.2
  cases x with
  |v y=>
   refine⟨fun b=>by simp [expC,h1],fun b=>by simp [expO,h2],by simp [lK,qr,h3],by simp [iN,qt,h4],⟨?_,h5⟩,by simp [flatL,fW,h6],by simp [fpL,tM,h7]⟩
   cases y<;>simp [qm]
  |sl m ds F=>
   cases F with
   |some _=>simp [je] at h
   |none=>exact⟨fun b=>by simp [expC,h1],fun b=>by simp [expO,h2],by simp [lK,qr,h3],by simp [iN,qt,h4],⟨⟨rfl,rfl,.inl rfl⟩,h5⟩,by simp [flatL,fW,h6],by simp [fpL,tM,h7]⟩
  |_=>simp [je] at h
theorem pI:∀ {xs:List (List C×Bool)},bg (xs.flatMap (·.1))=true->(∀b,tL b xs=xs)/\yw xs xs=[]/\rP xs xs=[]/\Ez ρ L xs xs
 | [],_=>⟨fun _=>rfl,rfl,rfl,trivial⟩
 |(cs,t)::r,h=>by
  simp only[List.flatMap_cons,fv,Bool.and_eq_true] at h
  obtain⟨h1,_,h3,h4,h5,_,_⟩:=cB (ρ:=ρ) (L:=L) h.1
  obtain⟨k1,k2,k3,k4⟩:=pI h.2
  exact⟨fun b=>by simp [tL,h1,k1],by simp [yw,h3,k2],by simp [rP,h4,k3],rfl,h5,k4⟩
theorem xr {s:S} (h:bg (aO s)=true):expS 9700 s=s/\vJ s s=[]/\rQ s s=[]/\leR ρ L s s:=by
 cases s with
 |c x=>
  obtain⟨h1,_,h3,h4,h5,_,_⟩:=cB (ρ:=ρ) (L:=L) (cs:=[x]) h
  refine⟨by simp [expS,h1],by simpa [lK,vJ] using h3,by simpa [iN,rQ] using h4,h5.1⟩
 |ag cs=>
  obtain⟨h1,_,h3,h4,h5,_,_⟩:=cB (ρ:=ρ) (L:=L) (cs:=cs) h
  exact⟨by simp [expS,h1],h3,h4,h5⟩
 |tu xs=>
  obtain⟨h1,h2,h3,h4⟩:=pI (ρ:=ρ) (L:=L) (xs:=xs) h
  exact⟨by simp [expS,h1],h2,h3,h4⟩
end
theorem nJ {p:Po}:inPool p []:=by
 unfold inPool
 split
 ·rfl
 ·exact Sb.nil _
theorem ao {L:Ob} {p:Po} {s:S} (h:(bg (aO s)&&decide ((aO s).length<=900))=true):EndOk L p s s 0 []:=by
 simp only[Bool.and_eq_true,decide_eq_true_eq] at h
 obtain⟨e1,e2,e3,e4⟩:=xr (ρ:=rhoE L s s 0 []) (L:=L) h.1
 obtain⟨h1,h2,_,_,_,h6,h7⟩:=cB (ρ:=[]) (L:=L) h.1
 have hb:back s []=[]:=by simp [back,h2,dG]
 have hr:rhoE L s s 0 []=[]:=by simp [rhoE,hb,mm,Ck,e1,e2]
 refine⟨rfl,by simp [Go.Dv.flat,h6,h.2,jv],by rw[e1];exact e4,by rw[hb];trivial,by rw[hr];rfl,?_,?_⟩
 ·rw[hr];simp [brwE,hb,l4,e1,e3,disjB]
 ·simp only[fps,h7,pn,List.append_nil];exact nJ
theorem iV {L:Ob} {p:Po} {s:S} {cs:List C} (hl:look L 9000=some (.str cs)) (h:(bg (aO s)&&decide ((aO s).length<=900)&&(bg cs&&decide (cs.length<=900)))=true):EndOk L p s s 1 [cs]:=by
 simp only[Bool.and_eq_true,decide_eq_true_eq] at h
 obtain⟨⟨ha,hb⟩,hc,hd⟩:=h
 obtain⟨e1,e2,e3,e4⟩:=xr (ρ:=rhoE L s s 1 [cs]) (L:=L) ha
 obtain⟨h1,h2,_,_,_,h6,h7⟩:=cB (ρ:=[]) (L:=L) ha
 obtain⟨k1,k2,k3,k4,_,k6,k7⟩:=cB (ρ:=[]) (L:=L) hc
 have hbk:back s [cs]=[(9000,.str cs)]:=by simp [back,h2,dG,k1,k2]
 have hr:rhoE L s s 1 [cs]=[(9000,9000)]:=by simp [rhoE,hbk,mm,Ck,e1,e2,lk,hl,k3]
 obtain⟨_,_,_,_,k5,_,_⟩:=cB (ρ:=rhoE L s s 1 [cs]) (L:=L) hc
 refine⟨rfl,by simp [Go.Dv.flat,h6,hb,jv,k6,hd],by rw[e1];exact e4,?_,by rw[hr];rfl,?_,?_⟩
 ·rw[hbk]
  refine⟨?_,trivial⟩
  have:lk (rhoE L s s 1 [cs]) 9000=some 9000:=by rw[hr];rfl
  rw[this]
  simp only[hl]
  exact k5
 ·rw[hr];simp [brwE,hbk,l4,e1,e3,lk,hl,k4,disjB]
 ·simp only[fps,h7,pn,k7,List.append_nil];exact nJ
theorem cy {q:Bool} {P:Program} {g:FuncId} {sargs:List S} {n d:Nat} {K:K0} {f:Rg} {L:Ob} {p:Po} {args:List S} {R:S->List (List C)->Prop} (h:Cl P g args [] R) (hd:d<n)
 (harg:args.length<=100/\leA (rho L sargs args []) L sargs (expA 9500 args)/\leB (rho L sargs args []) L (lent args [])/\nodupB ((rho L sargs args []).map (·.2))=true/\disjB (brw L (rho L sargs args []) sargs args []) ((rho L sargs args []).map (·.2))=true/\hJ L d (rho L sargs args [])=true/\(q=true->lent args []=[]))
 (hk:∀r,R r []->(brw L (rho L sargs args []) sargs args []=[]∨fX (aO r)=true)/\after (rho L sargs args []) n d r [] K f L p):CallQ q P g sargs n (some d) K f L p:=
 CallQ.intro h hd harg fun r os hR hos=>by
  have:os=[]:=List.eq_nil_of_length_eq_zero hos
  subst this
  obtain⟨h1,h2⟩:=hk r hR
  exact⟨h1.imp id fun h=>by rw[h];rfl,h2⟩
theorem AB {q:Bool} {P:Program} {g:FuncId} {sargs:List S} {n d:Nat} {K:K0} {f:Rg} {L:Ob} {args:List S} {objs:List (List C)} {R:S->List (List C)->Prop} {T:List Nat} {ps:List (List Nat)} (rest:List (List Nat)) (h:ClT P g args objs T R) (hd:d<n)
 (harg:args.length<=100/\leA (rho L sargs args objs) L sargs (expA 9500 args)/\leB (rho L sargs args objs) L (lent args objs)/\nodupB ((rho L sargs args objs).map (·.2))=true/\disjB (brw L (rho L sargs args objs) sargs args objs) ((rho L sargs args objs).map (·.2))=true/\hJ L d (rho L sargs args objs)=true/\(q=true->lent args objs=[]))
 (hsp:∀x,(T++rest.flatten).count x<=ps.flatten.count x)
 (hk:∀r objs',R r objs'->objs'.length=objs.length->(brw L (rho L sargs args objs) sargs args objs=[]∨(fX (aO r)&&iO objs')=true)/\after (rho L sargs args objs) n d r objs' K f L (some rest)):CallQ q P g sargs n (some d) K f L (some ps):=
 CallQ.introT rest h hd harg hsp hk
theorem cS {q:Bool} {P:Program} {g:FuncId} {sargs:List S} {n d:Nat} {K:K0} {f:Rg} {L:Ob} {p:Po} {args:List S} {objs:List (List C)} {r0:S} {os0:List (List C)} (h:Cl P g args objs fun r os=>r=r0/\os=os0)
 (harg:args.length<=100/\leA (rho L sargs args objs) L sargs (expA 9500 args)/\leB (rho L sargs args objs) L (lent args objs)/\nodupB ((rho L sargs args objs).map (·.2))=true/\disjB (brw L (rho L sargs args objs) sargs args objs) ((rho L sargs args objs).map (·.2))=true/\hJ L d (rho L sargs args objs)=true/\(q=true->lent args objs=[]))
 (hk:(brw L (rho L sargs args objs) sargs args objs=[]∨(fX (aO r0)&&iO os0)=true)/\after (rho L sargs args objs) n d r0 os0 K f L p) (hd:d<n:=by decide):CallQ q P g sargs n (some d) K f L p:=
 CallQ.intro h hd harg fun r os ⟨e1,e2⟩ _=>by subst e1 e2;exact hk
theorem cZ {q:Bool} {P:Program} {g:FuncId} {sargs:List S} {n d:Nat} {K:K0} {f:Rg} {L:Ob} {p:Po} {args:List S} {r0:S} (h:Cl P g args [] fun r _=>r=r0)
 (harg:args.length<=100/\leA (rho L sargs args []) L sargs (expA 9500 args)/\leB (rho L sargs args []) L (lent args [])/\nodupB ((rho L sargs args []).map (·.2))=true/\disjB (brw L (rho L sargs args []) sargs args []) ((rho L sargs args []).map (·.2))=true/\hJ L d (rho L sargs args [])=true/\(q=true->lent args []=[]))
 (hk:(brw L (rho L sargs args []) sargs args []=[]∨fX (aO r0)=true)/\after (rho L sargs args []) n d r0 [] K f L p) (hd:d<n:=by decide):CallQ q P g sargs n (some d) K f L p:=
 cy h hd harg fun r e=>by subst e;exact hk
theorem aD {α:Type} {row:α->List Go.Vc.D} {sz:Nat} (hsz:∀e,(row e).length=sz):∀ {es:List α} {k:Nat} {e:α},es[k]?=some e->(es.flatMap row).drop (k*sz)=row e++(es.drop (k+1)).flatMap row
 | [],_,_,h=>by simp at h
 |x::r,0,e,h=>by simp at h;subst h;simp
 |x::r,k+1,e,h=>by
  have ih:=aD hsz (es:=r) (k:=k) (by simpa using h)
  simp only[List.flatMap_cons,List.drop_succ_cons]
  rw[Nat.add_mul,Nat.one_mul,Nat.add_comm,<-List.drop_drop,List.drop_left' (hsz x)]
  exact ih
theorem aQ {α:Type} {row:α->List Go.Vc.D} {sz:Nat} (hsz:∀e,(row e).length=sz):∀es:List α,(es.flatMap row).length=es.length*sz
 | []=>by simp
 |x::r=>by rw[List.flatMap_cons,aA,hsz,aQ hsz r,List.length_cons,Nat.add_mul];omega
theorem gp {ds r:List Go.Vc.D} {k:Nat} (h:ds.length=k):fE k (ds++r)=some ds:=by
 subst h
 induction ds with
 |nil=>cases r<;>rfl
 |cons x t ih=>simp only[List.cons_append,List.length_cons,fE,ih]
end Go.Dv
namespace Go.Dv
open Go Go.RowKit
open Go.Vc (d6 Plan callable)
variable [Out]
theorem ji {s:S} (h:bg (aO s)=true) (b:Nat):expS b s=s:=by
 cases s with
 |c x=>
  obtain⟨h1,_⟩:=cB (ρ:=[]) (L:=[]) (cs:=[x]) h
  simp [expS,h1]
 |ag cs=>
  obtain⟨h1,_⟩:=cB (ρ:=[]) (L:=[]) (cs:=cs) h
  simp [expS,h1]
 |tu xs=>
  obtain⟨h1,_⟩:=pI (ρ:=[]) (L:=[]) (xs:=xs) h
  simp [expS,h1]
theorem er:∀ {args:List S} (b:Nat),bg (args.flatMap aO)=true->expA b args=args/\gH b args=[]
 | [],_,_=>⟨rfl,rfl⟩
 |s::r,b,h=>by
  simp only[List.flatMap_cons,fv,Bool.and_eq_true] at h
  obtain⟨h1,h2⟩:=er (args:=r) (b+1) h.2
  obtain⟨_,k2,_⟩:=cB (ρ:=[]) (L:=[]) h.1
  exact⟨by simp [expA,ji h.1,h1],by simp [gH,k2,h2]⟩
theorem Cl.ofNew {P:Program} {g:FuncId} {R:S->List (List C)->Prop} (hc:callable P g=true) (xs:List Value)
 (h:∀w,GlW w (fun _=>False)->Calls P g xs.toArray w fun e w'=>∃v r,e = .returned v/\R r []/\(bg (aO r)&&decide ((aO r).length<=900))=true/\(∀ β,RelS P w' β (fun b=>w.heap.size<=b) r v)/\Below w.heap.size w w') :
 Cl P g (xs.map fun x=>.c (.v x)) [] R:=by
 refine⟨hc,fun w β ok0 vs ha ho hg=>?_⟩
 have hpl:bg ((xs.map fun x=>(S.c (.v x))).flatMap aO)=true:=by
  clear ha ho hg h
  induction xs with
  |nil=>rfl
  |cons x r ih=>simp only[List.map_cons,List.flatMap_cons,fv,ih,Bool.and_true];rfl
 obtain⟨e1,e2⟩:=er 9500 hpl
 have el:lent (xs.map fun x=>(S.c (.v x))) []=[]:=by simp [lent,e2,dG]
 rw[e1] at ha
 have hvs:vs=xs:=by
  generalize qV ok0 (lent (xs.map fun x=>(S.c (.v x))) []) β=okk at ha
  clear hpl e1 e2 el ho hg h
  induction xs generalizing vs with
  |nil=>cases vs with|nil=>rfl|cons _ _=>exact ha.elim
  |cons x r ih=>cases vs with
   |nil=>exact ha.elim
   |cons v t=>
    obtain⟨h1,h2⟩:=ha
    rw[h1.1,ih t h2]
 subst hvs
 have ho':∀b,¬ownB (lent (vs.map fun x=>(S.c (.v x))) []) β b:=by rw[el];rintro b ⟨i,o,hl,_⟩;simp [look] at hl
 refine (h w (hg.mono (fun _ _ _=>rfl) fun _ h _=>h.elim)).mono ?_
 rintro e w' ⟨v,r,rfl,hR,hp,hrel,hB⟩
 simp only[Bool.and_eq_true,decide_eq_true_eq] at hp
 obtain⟨k1,k2,k3,k4,k5,k6,k7⟩:=cB (ρ:=[]) (L:=[]) hp.1
 have hbk:back r []=[]:=by simp [back,k2,dG]
 have hnb:∀b,¬ownB (back r []) β b:=by rw[hbk];rintro b ⟨i,o,hl,_⟩;simp [look] at hl
 refine⟨v,r,[],β,rfl,hR,⟨?_,⟨fun i o hl=>?_,fun i j o o' b hl=>?_⟩,fun k hk=>absurd hk (Nat.not_lt_zero _),rfl,⟨hB.size,fun b hb _=>hB.block b hb,fun b _ hb=>(hnb b hb).elim,fun b cs ty lh hc=>⟨cs,lh,(hB.block b (bq hc)).trans hc,rfl⟩⟩,hB.size,⟨hB.os,hB.tape,hB.output⟩,⟨by simp [fps,k7,pn],fun b hb=>?_⟩,by simp [flat,k6,hp.2,jv]⟩⟩
 ·rw[ji hp.1]
  exact (hrel β).st (cP fun b hb=>⟨hnb b,fun hlt=>by omega⟩)
 ·simp [hbk,look] at hl
 ·simp [hbk,look] at hl
 ·simp [fps,k7,pn] at hb
theorem Cl.ofVals {P:Program} {g:FuncId} {R:S->List (List C)->Prop} (hc:callable P g=true) (xs:List Value)
 (h:∀w,GlW w (fun _=>False)->Calls P g xs.toArray w fun e w'=>∃v,e = .returned v/\d6 v/\R (.c (.v v)) []/\Below w.heap.size w w'):Cl P g (xs.map fun x=>.c (.v x)) [] R:=
 Cl.ofNew hc xs fun w hg=>(h w hg).mono fun _ _ ⟨v,h1,h2,h3,h4⟩=>⟨v,_,h1,h3,rfl,fun _=>⟨rfl,h2⟩,h4⟩
end Go.Dv
namespace Go.Dv
open Go Go.RowKit
open Go.Vc (D d6 Plan guardSlot dsts)
variable [Out]
theorem xt {q:Bool} {P:Program} {g:FuncId} {ss:List S} {n:Nat} {d:Option Nat} {K:K0} {f:Rg} {L:Ob} {p:Po} {B:Prop} (h:CallQ q P g ss n d K f L p) (k:B):CallQ q P g ss n d K f L p/\B:=⟨h,k⟩
theorem GG {b:Bool} {x y:Nat} {Z B:Prop} (h:b=true/\mP x y/\Z) (k:B):(b=true/\mP x y/\Z)/\B:=⟨h,k⟩
theorem AC {b:Bool} {x y:Nat} {Z B B':Prop} (h:(b=true/\mP x y/\Z)/\B) (k:B'):((b=true/\mP x y/\Z)/\B)/\B':=⟨h,k⟩
theorem AD {b:Bool} {x y:Nat} {Z B B' B'':Prop} (h:((b=true/\mP x y/\Z)/\B)/\B') (k:B''):(((b=true/\mP x y/\Z)/\B)/\B')/\B'':=⟨h,k⟩
theorem mq {q:Bool} {P:Program} {g:FuncId} {ss:List S} {n:Nat} {d:Option Nat} {K:K0} {f:Rg} {L:Ob} {p:Po} {B B':Prop} (h:CallQ q P g ss n d K f L p/\B) (k:B'):(CallQ q P g ss n d K f L p/\B)/\B':=⟨h,k⟩
theorem aE {p:Prop} (h:p:=by simp only[eO];omega):p:=h
theorem ak:type_of% @SubO.cons:=@SubO.cons
theorem aq:type_of% @SubO.nil:=@SubO.nil
theorem av:type_of% @PoSub.none:=@PoSub.none
end Go.Dv
