/-
  The program parses statements as the reference does.
  Conditions: none.
-/
import Derived.Test.YteffjmaadkkmeaaGreatDoorQSX2
set_option linter.unusedVariables false
set_option linter.unusedSimpArgs false
set_option linter.unusedSectionVars false
set_option maxRecDepth 8000
namespace Go.Proofs.YteffjmaadkkmeaaGreatDoor
open Go Go.Dv
open Go.Vc (D eb ec dK bN)
open Go.Cv
open Go.Vc (CellF ValsF aV Cells)
theorem uo (s:ByteArray):gN (cK s).1≤100000000:=by
 have hz:gN aF≤100000000:=by decide
 unfold cK fj
 split
 ·exact hz
 ·rename_i L hlx
  have:=Ca (L:=L) (Nat.le_trans (hY hlx).1 (by omega))
  simp only
  split
  ·exact hz
  ·split
   ·exact this
   ·exact hz
set_option maxHeartbeats 4000000 in
theorem Dk (s:ByteArray) (w:World) (hok:Go.Vc.okV (.string s)) (hG:GlW w (fun _=>False)) :
 aV Tryz.prog 8=true∧Calls Tryz.prog 8 #[.string s] w fun e w'=>∃v,e = .returned v∧v = .bool true∧Gr w w':=by
 have hGw:=hG
 refine⟨by kernel_rfl,?_⟩
 have hcc:=fun R=>@cY Tryz.prog w 8 Tryz.f8 _ [.string s] R Tryz.func8 rfl (Nat.le_of_ble_eq_true rfl)
 refine hcc _ ?_
 clear hcc
 simp (maxSteps:=10000000) only[tt,cc,seval,aM,aB,bG,Go.Vc.guardSlot,Tryz.f8]
 try refine fun _=>?_
 refine And.intro (fun hbig=>?_) (fun hsm=>?_)
 ·first|exact Gr.refl w|exact⟨rfl,Gr.refl w⟩
 have hs:s.size≤1048576:=by omega
 have csp:=wA s hs
 have cim:=uv s hs
 have hcn:gN (cK s).1≤100000000:=uo s
 simp only[C6] at csp cim
 generalize (cK s).1=e at *
 generalize (cK s).2=ft at *
 have gW:=Gr.refl w
 obtain⟨w1,hw1⟩:∃w1,w1=w:=⟨_,rfl⟩
 rw[←hw1] at hG gW hGw ⊢
 clear hw1
 obtain⟨hc1,hk1⟩:=Go.Cv.Cl.at (P:=Tryz.prog) (csp) (rfl) (vs:=[.string s]) (w:=w1) (⟨⟨rfl,hok⟩,trivial⟩) hG
 refine⟨hc1,_,hk1,?_⟩
 rintro _ w2 ⟨_,rfl,g1,hres⟩
 replace hG:=d3 g1 hG
 replace gW:=gW.trans g1
 obtain⟨vs0,us0,G0,H0,rfl,hv0,hu0⟩:=yO hres
 have lv0:vs0.length=12:=hv0.length.trans (Stmt.row_len e)
 have lu0:us0.length=2:=hu0.length.trans (mj ft)
 refine Stp.go ?_
 simp (maxSteps:=10000000) only[tt,cc,seval,aM,aB,bG,Go.Vc.guardSlot]
 refine⟨_,rfl,?_⟩
 simp (maxSteps:=10000000) only[tt,cc,seval,aM,aB,bG,Go.Vc.guardSlot]
 refine⟨_,rfl,?_⟩
 try simp (maxSteps:=10000000) only[tt,cc,seval,aM,aB,bG,Go.Vc.guardSlot]
 intro b3 wx hb1 hx1
 try simp (maxSteps:=10000000) only[tt,cc,seval,aM,aB,bG,Go.Vc.guardSlot]
 intro b4 wy hb2 hx2
 try simp (maxSteps:=10000000) only[tt,cc,seval,aM,aB,bG,Go.Vc.guardSlot,lv0,lu0]
 have kk1:=(bz hb2 hx2).2.box (bz hb1 hx1).1
 refine⟨?_,⟨_,_,_,kk1,Lh.zero _,?_⟩,pF hv0,_,rfl,?_⟩
 ·first|rfl|simp [lv0]
 ·simp [lv0]
 obtain⟨wz,hw3⟩:∃wz,wy.setRow b3 vs0.toArray=wz:=⟨_,rfl⟩
 try rw[hw3]
 refine Stp.go ?_
 try simp (maxSteps:=10000000) only[tt,cc,seval,aM,aB,bG,Go.Vc.guardSlot,lv0,lu0]
 have kk2:=kl (x:=vs0.toArray) (bz hb2 hx2).1 (show b3≠b4 by have:=ig (bz hb1 hx1).1;omega)
 rw[hw3] at kk2
 refine⟨?_,⟨_,_,_,kk2,Lh.zero _,?_⟩,pF hu0,_,rfl,?_⟩
 ·first|rfl|simp [lu0]
 ·simp [lu0]
 obtain⟨w3,hw4⟩:∃w3,wz.setRow b4 us0.toArray=w3:=⟨_,rfl⟩
 try rw[hw4]
 obtain⟨hb3,hb4,g2⟩:=iG hb1 hx1 hb2 hx2 hw3 hw4 (by simp [lv0]) (by simp [lu0])
 have sb4:w2.heap.size≤b4:=by have:=(bz hb1 hx1).2.size;omega
 clear kk1 kk2 hw3 hw4 hx1 hx2
 replace hG:=d3 g2 hG
 replace gW:=gW.trans g2
 replace hv0:=hv0.grow g2.grow
 replace hu0:=hu0.grow g2.grow
 refine Stp.go ?_
 simp (maxSteps:=10000000) only[tt,cc,seval,aM,aB,bG,Go.Vc.guardSlot]
 have hV0:∀x∈G0,x<w3.heap.size:=fun x hx=>Go.Cv.vis_lt (hv0.vis x hx)
 have hU0:∀x∈H0,x<w3.heap.size:=fun x hx=>Go.Cv.vis_lt (hu0.vis x hx)
 have sb3:b3<w3.heap.size:=ig hb3
 have sb4:b4<w3.heap.size:=ig hb4
 have s2:w1.heap.size≤w3.heap.size:=gW.size
 obtain⟨hc3,hk3⟩:=Go.Cv.Cl.at (P:=Tryz.prog) (cim) (rfl) (vs:=[.string s]) (w:=w3) (⟨⟨rfl,hok⟩,trivial⟩) hG
 refine⟨hc3,_,hk3,?_⟩
 rintro _ w4 ⟨_,⟨F0,F1,F2,F3,F4,F5,F6,F7,rfl⟩,g3,hres⟩
 replace hG:=d3 g3 hG
 replace gW:=gW.trans g3
 replace hv0:=hv0.grow g3.grow
 replace hu0:=hu0.grow g3.grow
 replace hb3:=g3.box hb3
 replace hb4:=g3.box hb4
 obtain⟨vs6,us6,G6,H6,rfl,hg0,nw6,hu1⟩:=ox (lT e.row [F0,F1,F2,F3,F4,F5,F6,F7] (by obtain⟨kind,⟨query_distinct,query_items,query_from_,query_where_,query_order,query_limit⟩,table,rows,cols,sets,where_⟩:=e;simp [Stmt.row_mk,Query.row_mk,ze,int,bool,str])) rfl hres
 have o6:=nw6.own
 have n6:=nw6.nodup
 have l6:=nw6.new
 have lv6:vs6.length=12:=hg0.length.trans (Stmt.row_len e)
 have lu6:us6.length=2:=hu1.length.trans (mj ft)
 refine Stp.go ?_
 simp (maxSteps:=10000000) only[tt,cc,seval,aM,aB,bG,Go.Vc.guardSlot]
 have u6:∀x∈G6,x<w4.heap.size:=nw6.lt
 have s4:w3.heap.size≤w4.heap.size:=g3.size
 have hszh:w4.heap.size≤w4.heap.size:=Nat.le_refl _
 refine⟨_,rfl,?_⟩
 simp (maxSteps:=10000000) only[tt,cc,seval,aM,aB,bG,Go.Vc.guardSlot]
 refine⟨_,rfl,?_⟩
 try simp (maxSteps:=10000000) only[tt,cc,seval,aM,aB,bG,Go.Vc.guardSlot]
 intro b5 wx hb1 hx1
 try simp (maxSteps:=10000000) only[tt,cc,seval,aM,aB,bG,Go.Vc.guardSlot]
 intro b6 wy hb2 hx2
 try simp (maxSteps:=10000000) only[tt,cc,seval,aM,aB,bG,Go.Vc.guardSlot,lv6,lu6]
 have kk1:=(bz hb2 hx2).2.box (bz hb1 hx1).1
 refine⟨?_,⟨_,_,_,kk1,Lh.zero _,?_⟩,pF hg0,_,rfl,?_⟩
 ·first|rfl|simp [lv6]
 ·simp [lv6]
 obtain⟨wz,hw3⟩:∃wz,wy.setRow b5 vs6.toArray=wz:=⟨_,rfl⟩
 try rw[hw3]
 refine Stp.go ?_
 try simp (maxSteps:=10000000) only[tt,cc,seval,aM,aB,bG,Go.Vc.guardSlot,lv6,lu6]
 have kk2:=kl (x:=vs6.toArray) (bz hb2 hx2).1 (show b5≠b6 by have:=ig (bz hb1 hx1).1;omega)
 rw[hw3] at kk2
 refine⟨?_,⟨_,_,_,kk2,Lh.zero _,?_⟩,pF hu1,_,rfl,?_⟩
 ·first|rfl|simp [lu6]
 ·simp [lu6]
 obtain⟨w5,hw4⟩:∃w5,wz.setRow b6 us6.toArray=w5:=⟨_,rfl⟩
 try rw[hw4]
 obtain⟨hb5,hb6,g4⟩:=iG hb1 hx1 hb2 hx2 hw3 hw4 (by simp [lv6]) (by simp [lu6])
 have sb6:w4.heap.size≤b6:=by have:=(bz hb1 hx1).2.size;omega
 clear kk1 kk2 hw3 hw4 hx1 hx2
 replace hG:=d3 g4 hG
 replace gW:=gW.trans g4
 replace hv0:=hv0.grow g4.grow
 replace hu0:=hu0.grow g4.grow
 replace hb3:=g4.box hb3
 replace hb4:=g4.box hb4
 replace hg0:=hg0.grow g4.grow
 replace o6:=o6.grow g4.grow
 replace hu1:=hu1.grow g4.grow
 refine Stp.go ?_
 simp (maxSteps:=10000000) only[tt,cc,seval,aM,aB,bG,Go.Vc.guardSlot]
 have sb5:w4.heap.size≤b5:=by omega
 have sb6:w4.heap.size≤b6:=sb6
 refine⟨vs6,lv6,dQ hb5,?_⟩
 try simp (maxSteps:=10000000) only[tt,cc,seval,aM,aB,bG,Go.Vc.guardSlot]
 refine⟨vs0,lv0,dQ hb3,?_⟩
 try simp (maxSteps:=10000000) only[tt,cc,seval,aM,aB,bG,Go.Vc.guardSlot]
 obtain⟨hc5,hk5⟩:=Go.Cv.Cl.at (P:=Tryz.prog) (wG e) (fh _ _) (vs:=[.agg vs6.toArray,.agg vs0.toArray]) (w:=w5) (⟨dg hg0,dg hv0,trivial⟩) hG
 refine⟨hc5,_,hk5,?_⟩
 rintro _ w6 ⟨_,rfl,g5,hres⟩
 replace hG:=d3 g5 hG
 replace gW:=gW.trans g5
 replace hv0:=hv0.grow g5.grow
 replace hu0:=hu0.grow g5.grow
 replace hb3:=g5.box hb3
 replace hb4:=g5.box hb4
 replace hg0:=hg0.grow g5.grow
 replace o6:=o6.grow g5.grow
 replace hu1:=hu1.grow g5.grow
 replace hb5:=g5.box hb5
 replace hb6:=g5.box hb6
 obtain rfl:=hres.val
 refine Stp.go ?_
 simp (maxSteps:=10000000) only[tt,cc,seval,aM,aB,bG,Go.Vc.guardSlot,Bool.not_true,decide_not,decide_true,ne_eq,not_true_eq_false,decide_false,Bool.false_eq_true]
 refine⟨us6,lu6,dQ hb6,?_⟩
 try simp (maxSteps:=10000000) only[tt,cc,seval,aM,aB,bG,Go.Vc.guardSlot]
 refine⟨us0,lu0,dQ hb4,?_⟩
 try simp (maxSteps:=10000000) only[tt,cc,seval,aM,aB,bG,Go.Vc.guardSlot]
 obtain⟨hc6,hk6⟩:=Go.Cv.Cl.at (P:=Tryz.prog) (ml ft) (fh _ _) (vs:=[.agg us6.toArray,.agg us0.toArray]) (w:=w6) (⟨dg hu1,dg hu0,trivial⟩) hG
 refine⟨hc6,_,hk6,?_⟩
 rintro _ w7 ⟨_,rfl,g6,hres⟩
 replace hG:=d3 g6 hG
 replace gW:=gW.trans g6
 replace hv0:=hv0.grow g6.grow
 replace hu0:=hu0.grow g6.grow
 replace hb3:=g6.box hb3
 replace hb4:=g6.box hb4
 replace hg0:=hg0.grow g6.grow
 replace o6:=o6.grow g6.grow
 replace hu1:=hu1.grow g6.grow
 replace hb5:=g6.box hb5
 replace hb6:=g6.box hb6
 obtain rfl:=hres.val
 refine Stp.go ?_
 simp (maxSteps:=10000000) only[tt,cc,seval,aM,aB,bG,Go.Vc.guardSlot,Bool.not_true,decide_not,decide_true,ne_eq,not_true_eq_false,decide_false,Bool.false_eq_true]
 refine⟨vs6,lv6,dQ hb5,?_⟩
 try simp (maxSteps:=10000000) only[tt,cc,seval,aM,aB,bG,Go.Vc.guardSlot]
 obtain⟨kind,⟨query_distinct,query_items,query_from_,query_where_,query_order,query_limit⟩,table,rows,cols,sets,where_⟩:=e
 rw[kp] at hcn
 have d6:∀t,t<w3.heap.size→t ∉ G6:=fun t ht hm=>by have:=l6 t hm;omega
 obtain⟨hc7,hk7⟩:=xC kind query_distinct query_items query_from_ query_where_ query_order query_limit table rows cols sets where_ 1 w7 vs6 G6 hg0 n6 o6 hG (fun t ht=>d6 _ (Nat.lt_of_lt_of_le (uh hGw t ht) (by omega))) (by omega) (by omega)
 refine⟨hc7,_,hk7,?_⟩
 rintro _ w8 ⟨rfl,hg0,o6,gc⟩
 replace hb3:=gc.box hb3 (d6 _ (by omega))
 replace hb4:=gc.box hb4 (d6 _ (by omega))
 replace hb5:=gc.box hb5 (fun hm=>by have:=u6 _ hm;omega)
 replace hb6:=gc.box hb6 (fun hm=>by have:=u6 _ hm;omega)
 replace hG:=bk gc hG (fun t ht=>d6 _ (Nat.lt_of_lt_of_le (uh hGw t ht) (by omega)))
 replace gW:=gW.chl_trans gc fun x hx=>by have:=l6 x hx;omega
 replace hv0:=hv0.chg gc.chg fun x hx=>d6 x (by have:=hV0 x hx;omega)
 replace hu0:=hu0.chg gc.chg fun x hx=>d6 x (by have:=hU0 x hx;omega)
 clear hu1 hb6
 have held:=xD kind query_distinct query_items query_from_ query_where_ query_order query_limit table rows cols sets where_ 1 (by omega) (by omega)
 have hneg:¬(1+(aq ay query_items:Int)+(aq ap query_from_:Int)+(aq ae query_where_:Int)+(aq au query_order:Int)+(aq bg rows:Int)+(aq (fun _=>1) cols:Int)+(aq ae sets:Int)+(aq ae where_:Int)<0):=by omega
 generalize 1+(aq ay query_items:Int)+(aq ap query_from_:Int)+(aq ae query_where_:Int)+(aq au query_order:Int)+(aq bg rows:Int)+(aq (fun _=>1) cols:Int)+(aq ae sets:Int)+(aq ae where_:Int)=mm at *
 refine Stp.go ?_
 simp (maxSteps:=10000000) only[tt,cc,seval,aM,aB,bG,Go.Vc.guardSlot]
 refine⟨vs6,lv6,dQ hb5,?_⟩
 try simp (maxSteps:=10000000) only[tt,cc,seval,aM,aB,bG,Go.Vc.guardSlot]
 obtain⟨hc8,hk8⟩:=Go.Cv.Cl.at (P:=Tryz.prog) (held) (mh _ _) (vs:=[.agg vs6.toArray,.int .i64 1]) (w:=w8) (⟨dg hg0,⟨rfl,trivial⟩,trivial⟩) hG
 refine⟨hc8,_,hk8,?_⟩
 rintro _ w9 ⟨_,rfl,g8,hres⟩
 replace hG:=d3 g8 hG
 replace gW:=gW.trans g8
 replace hv0:=hv0.grow g8.grow
 replace hu0:=hu0.grow g8.grow
 replace hb3:=g8.box hb3
 replace hb4:=g8.box hb4
 replace hg0:=hg0.grow g8.grow
 replace o6:=o6.grow g8.grow
 replace hb5:=g8.box hb5
 obtain rfl:=hres.val
 refine Stp.go ?_
 simp (maxSteps:=10000000) only[tt,cc,seval,aM,aB,bG,Go.Vc.guardSlot,decide_eq_false hneg,decide_true,Bool.not_true,eq_self,ne_eq,not_true_eq_false,decide_false,Bool.false_eq_true]
 obtain⟨hc9,hk9⟩:=Go.Cv.Cl.at (P:=Tryz.prog) (cim) (rfl) (vs:=[.string s]) (w:=w9) (⟨⟨rfl,hok⟩,trivial⟩) hG
 refine⟨hc9,_,hk9,?_⟩
 rintro _ w10 ⟨_,⟨F0,F1,F2,F3,F4,F5,F6,F7,rfl⟩,g9,hres⟩
 replace hG:=d3 g9 hG
 replace gW:=gW.trans g9
 replace hv0:=hv0.grow g9.grow
 replace hu0:=hu0.grow g9.grow
 replace hb3:=g9.box hb3
 replace hb4:=g9.box hb4
 replace hg0:=hg0.grow g9.grow
 replace o6:=o6.grow g9.grow
 replace hb5:=g9.box hb5
 obtain⟨vs8,us8,G10,H10,rfl,hh0,_,hv1⟩:=ox (lT _ [F0,F1,F2,F3,F4,F5,F6,F7] (by simp [Stmt.row_mk,Query.row_mk,ze,int,bool,str])) rfl hres
 have lv8:vs8.length=12:=hh0.length.trans (Stmt.row_len _)
 have lu8:us8.length=2:=hv1.length.trans (mj ft)
 refine Stp.go ?_
 simp (maxSteps:=10000000) only[tt,cc,seval,aM,aB,bG,Go.Vc.guardSlot]
 refine⟨_,rfl,?_⟩
 simp (maxSteps:=10000000) only[tt,cc,seval,aM,aB,bG,Go.Vc.guardSlot]
 refine⟨_,rfl,?_⟩
 try simp (maxSteps:=10000000) only[tt,cc,seval,aM,aB,bG,Go.Vc.guardSlot]
 intro b9 wx hb1 hx1
 try simp (maxSteps:=10000000) only[tt,cc,seval,aM,aB,bG,Go.Vc.guardSlot]
 intro b10 wy hb2 hx2
 try simp (maxSteps:=10000000) only[tt,cc,seval,aM,aB,bG,Go.Vc.guardSlot,lv8,lu8]
 have kk1:=(bz hb2 hx2).2.box (bz hb1 hx1).1
 refine⟨?_,⟨_,_,_,kk1,Lh.zero _,?_⟩,pF hh0,_,rfl,?_⟩
 ·first|rfl|simp [lv8]
 ·simp [lv8]
 obtain⟨wz,hw3⟩:∃wz,wy.setRow b9 vs8.toArray=wz:=⟨_,rfl⟩
 try rw[hw3]
 refine Stp.go ?_
 try simp (maxSteps:=10000000) only[tt,cc,seval,aM,aB,bG,Go.Vc.guardSlot,lv8,lu8]
 have kk2:=kl (x:=vs8.toArray) (bz hb2 hx2).1 (show b9≠b10 by have:=ig (bz hb1 hx1).1;omega)
 rw[hw3] at kk2
 refine⟨?_,⟨_,_,_,kk2,Lh.zero _,?_⟩,pF hv1,_,rfl,?_⟩
 ·first|rfl|simp [lu8]
 ·simp [lu8]
 obtain⟨w11,hw4⟩:∃w11,wz.setRow b10 us8.toArray=w11:=⟨_,rfl⟩
 try rw[hw4]
 obtain⟨hb9,hb10,g10⟩:=iG hb1 hx1 hb2 hx2 hw3 hw4 (by simp [lv8]) (by simp [lu8])
 have sb10:w10.heap.size≤b10:=by have:=(bz hb1 hx1).2.size;omega
 clear kk1 kk2 hw3 hw4 hx1 hx2
 replace hG:=d3 g10 hG
 replace gW:=gW.trans g10
 replace hv0:=hv0.grow g10.grow
 replace hu0:=hu0.grow g10.grow
 replace hb3:=g10.box hb3
 replace hb4:=g10.box hb4
 replace hg0:=hg0.grow g10.grow
 replace o6:=o6.grow g10.grow
 replace hb5:=g10.box hb5
 replace hh0:=hh0.grow g10.grow
 replace hv1:=hv1.grow g10.grow
 refine Stp.go ?_
 simp (maxSteps:=10000000) only[tt,cc,seval,aM,aB,bG,Go.Vc.guardSlot]
 refine⟨vs8,lv8,dQ hb9,?_⟩
 try simp (maxSteps:=10000000) only[tt,cc,seval,aM,aB,bG,Go.Vc.guardSlot]
 refine⟨vs0,lv0,dQ hb3,?_⟩
 try simp (maxSteps:=10000000) only[tt,cc,seval,aM,aB,bG,Go.Vc.guardSlot]
 obtain⟨hc11,hk11⟩:=Go.Cv.Cl.at (P:=Tryz.prog) (wG (Stmt.mk kind (Query.mk query_distinct query_items query_from_ query_where_ query_order query_limit) table rows cols sets where_)) (fh _ _) (vs:=[.agg vs8.toArray,.agg vs0.toArray]) (w:=w11) (⟨dg hh0,dg hv0,trivial⟩) hG
 refine⟨hc11,_,hk11,?_⟩
 rintro _ w12 ⟨_,rfl,g11,hres⟩
 replace hG:=d3 g11 hG
 replace gW:=gW.trans g11
 replace hv0:=hv0.grow g11.grow
 replace hu0:=hu0.grow g11.grow
 replace hb3:=g11.box hb3
 replace hb4:=g11.box hb4
 replace hg0:=hg0.grow g11.grow
 replace o6:=o6.grow g11.grow
 replace hb5:=g11.box hb5
 replace hh0:=hh0.grow g11.grow
 replace hv1:=hv1.grow g11.grow
 replace hb9:=g11.box hb9
 replace hb10:=g11.box hb10
 obtain rfl:=hres.val
 refine Stp.go ?_
 simp (maxSteps:=10000000) only[tt,cc,seval,aM,aB,bG,Go.Vc.guardSlot,Bool.not_true,decide_not,decide_true,ne_eq,not_true_eq_false,decide_false,Bool.false_eq_true]
 refine⟨us8,lu8,dQ hb10,?_⟩
 try simp (maxSteps:=10000000) only[tt,cc,seval,aM,aB,bG,Go.Vc.guardSlot]
 refine⟨us0,lu0,dQ hb4,?_⟩
 try simp (maxSteps:=10000000) only[tt,cc,seval,aM,aB,bG,Go.Vc.guardSlot]
 obtain⟨hc12,hk12⟩:=Go.Cv.Cl.at (P:=Tryz.prog) (ml ft) (fh _ _) (vs:=[.agg us8.toArray,.agg us0.toArray]) (w:=w12) (⟨dg hv1,dg hu0,trivial⟩) hG
 refine⟨hc12,_,hk12,?_⟩
 rintro _ w13 ⟨_,rfl,g12,hres⟩
 replace hG:=d3 g12 hG
 replace gW:=gW.trans g12
 replace hv0:=hv0.grow g12.grow
 replace hu0:=hu0.grow g12.grow
 replace hb3:=g12.box hb3
 replace hb4:=g12.box hb4
 replace hg0:=hg0.grow g12.grow
 replace o6:=o6.grow g12.grow
 replace hb5:=g12.box hb5
 replace hh0:=hh0.grow g12.grow
 replace hv1:=hv1.grow g12.grow
 replace hb9:=g12.box hb9
 replace hb10:=g12.box hb10
 obtain rfl:=hres.val
 refine Stp.go ?_
 simp (maxSteps:=10000000) only[tt,cc,seval,aM,aB,bG,Go.Vc.guardSlot,Bool.not_true,decide_not,decide_true,ne_eq,not_true_eq_false,decide_false,Bool.false_eq_true]
 refine⟨vs6,lv6,dQ hb5,?_⟩
 try simp (maxSteps:=10000000) only[tt,cc,seval,aM,aB,bG,Go.Vc.guardSlot]
 obtain⟨hc13,hk13⟩:=Go.Cv.Cl.at (P:=Tryz.prog) (held) (mh _ _) (vs:=[.agg vs6.toArray,.int .i64 1]) (w:=w13) (⟨dg hg0,⟨rfl,trivial⟩,trivial⟩) hG
 refine⟨hc13,_,hk13,?_⟩
 rintro _ w14 ⟨_,rfl,g13,hres⟩
 replace hG:=d3 g13 hG
 replace gW:=gW.trans g13
 replace hv0:=hv0.grow g13.grow
 replace hu0:=hu0.grow g13.grow
 replace hb3:=g13.box hb3
 replace hb4:=g13.box hb4
 replace hg0:=hg0.grow g13.grow
 replace o6:=o6.grow g13.grow
 replace hb5:=g13.box hb5
 replace hh0:=hh0.grow g13.grow
 replace hv1:=hv1.grow g13.grow
 replace hb9:=g13.box hb9
 replace hb10:=g13.box hb10
 obtain rfl:=hres.val
 refine Stp.go ?_
 simp (maxSteps:=10000000) only[tt,cc,seval,aM,aB,bG,Go.Vc.guardSlot,decide_eq_false hneg,decide_true,Bool.not_true,eq_self,ne_eq,not_true_eq_false,decide_false,Bool.false_eq_true]
 first|exact gW|exact⟨rfl,gW⟩
end Go.Proofs.YteffjmaadkkmeaaGreatDoor
set_option maxRecDepth 8000
namespace Go.Proofs.YteffjmaadkkmeaaGreatDoor
open Go Go.Dv Go.ChangeShapes Go.WideShapes Go.ChangeAt Go.RowKit
theorem rM {W:World} (hL:laidMetH Tryz.prog Rows.fnExactParseStmtRow.laid W) (hs:W.ShapedOpen Tryz.prog):GlW W (fun _=>False):=by
 rw[MakeChecks.laidMetH_plain _ _ _ (by kernel_rfl)] at hL
 have h2:laidMet Tryz.prog ((((Rows.fnExactParseStmtRow.laid.map (·.1)).getD 2 ""),Lib.tabData .u64 Lib.pow10Tab)::Rows.fnExactParseStmtRow.laid.drop 3) W:=laidMet.tail (laidMet.tail hL)
 have h4:laidMet Tryz.prog (Rows.fnExactParseStmtRow.laid.drop 4) W:=laidMet.tail (laidMet.tail h2)
 have h5:laidMet Tryz.prog (Rows.fnExactParseStmtRow.laid.drop 5) W:=laidMet.tail h4
 obtain⟨a5,s5,v5,_⟩:=laid_sentinel (g:=2) (ti:=203) (tp:=273) (te:=275) (ts:=9) h4 (by kernel_rfl) (by kernel_rfl) Tryz.underlying203 uj Tryz.underlying273 Tryz.underlying275 rfl rfl Tryz.underlying9 ov qZ
 obtain⟨a4,s4,v4,_⟩:=laid_sentinel (g:=1) (ti:=203) (tp:=273) (te:=275) (ts:=9) h5 (by kernel_rfl) (by kernel_rfl) Tryz.underlying203 uj Tryz.underlying273 Tryz.underlying275 rfl rfl Tryz.underlying9 ov qZ
 exact C0 (t:=3) (zero:=#[.int .i64 0]) (by kernel_rfl) (Lib.tabIs_of_head (g:=3) (t:=285) (e:=260) (n:=20) (by kernel_rfl) (by kernel_rfl) Tryz.underlying285 Tryz.underlying260 (by kernel_rfl) (by kernel_rfl) h2) hs (of_decide_eq_true (by kernel_rfl)) (by kernel_rfl) rfl (by kernel_rfl) (by kernel_rfl) Tryz.underlying3 (by kernel_rfl) v4 (by kernel_rfl) v5
namespace fnExactParseStmt
open Go Go.Dv Go.ChangeShapes Go.WideShapes Go.ChangeAt Go.RowKit
set_option maxRecDepth 100000 in
theorem xv (os:Os) (started:os.Started) (H:Type) (enc:TypeId×Value→H) :
 ReturnsInHanded {} Tryz.checked os 8 .any (fun w args=>(Rows.fnExactParseStmtSpec.pre enc Tryz.prog Tryz.f8 Rows.fnExactParseStmtRow.domain false w args∧laidMetH Tryz.prog Rows.fnExactParseStmtRow.laid w)∧sizedMet enc Tryz.prog Tryz.f8 (OpenSpec.ofChange Rows.fnExactParseStmtSpec) false w args)
  (Rows.fnExactParseStmtSpec.post enc Tryz.prog Tryz.f8 false true false false):=by
 refine hJ (C:=Tryz.checked) (X:=fun w _=>laidMetH Tryz.prog Rows.fnExactParseStmtRow.laid w) (fun _ _ _ hh h=>h.of_heap hh) own started (by as_aux_lemma=>kernel_rfl) Tryz.func8
  (ChangeSpec.witness_shaped (enc:=enc) (C:=Tryz.checked) (os:=os) (X:=fun w _=>laidMetH Tryz.prog Rows.fnExactParseStmtRow.laid w) false (World.laidAll Tryz.prog os Rows.fnExactParseStmtRow.laid) #[.string ByteArray.empty] 8 (World.laidAll_os _ _ _)
    (World.shaped_of_ZipB (by as_aux_lemma=>kernel_rfl) (by as_aux_lemma=>kernel_rfl)) (by as_aux_lemma=>kernel_rfl) (by as_aux_lemma=>kernel_rfl) (by as_aux_lemma=>kernel_rfl)
    (by rw[MakeChecks.laidMetH_plain _ _ _ (by as_aux_lemma=>kernel_rfl)];exact laidMet_laidAll _ (by as_aux_lemma=>kernel_rfl) (by as_aux_lemma=>kernel_rfl))) ?_
 intro W base args ds gs before hval0 hW _ hL hsh
 have hval:∀(j:Nat) t v,Tryz.f8.params[j]?=some t→args[j]?=some v→Value.okWide Tryz.prog W .any base t v:=hval0
 have hW':=hW
 obtain⟨p,q,hA0,hV,rfl,hfz,hnd⟩:=hW
 have hA:DataW.TrodAll enc Tryz.prog W 0 (fun _=>true) true Tryz.f8.params.toList args.toList ds p:=hA0
 rw[Tryz.params8] at hA hval
 obtain⟨v0,vs0,d0,ds0,p0,q0,hargs,rfl,rfl,h0,r0⟩:=trodAll_cons hA
 obtain⟨rfl,rfl,rfl⟩:=trodAll_nil r0
 obtain rfl:args = #[v0]:=by cases args;simp_all
 obtain⟨rfl,rfl⟩:=trodVars_none hV
 have hv0:=hval 0 9 v0 rfl rfl
 obtain⟨s0,rfl⟩:=okWide_string Tryz.underlying9 hv0
 have hok:Go.Vc.okV (.string s0):=by
  simp only[Value.okWide,Tryz.underlying9,Cell.okWide,Cell.ok] at hv0
  have hmx:IntKind.i64.max=9223372036854775807:=rfl
  rw[hmx] at hv0
  show s0.size≤9223372036854775807
  omega
 obtain⟨n0,t0⟩:=h0
 clear hA0 hval0
 simp only[List.append_nil] at hW'
 have hlt:∀p∈p0,p.block<W.heap.size:=fun p hp=>hW'.lt p hp
 have hcall:Calls Tryz.prog 8 #[_] W fun e w'=>∃v,e = .returned v∧v = .bool true∧Go.Cv.Gr W w':=(Dk s0 W hok (rM hL hsh)).2
 refine hcall.mono fun e W' ⟨v,he,hr,g⟩=>?_
 have hb:Below W.heap.size W W':=⟨g.os,g.tape,g.output,g.size,g.keep⟩
 have hf:=sV g
 subst he hr
 exact⟨_,rfl,wm (pa:=p0) (pv:=[]) hW' (fun _ _ _=>(trodAll_cons_mk (shut_bool Tryz.underlying4 _) trodAll_mk0))
  (fun sp hsp=>trodAll_mk1 (WideElems.Trod_stays (t:=9) yN (by as_aux_lemma=>kernel_rfl) (of_decide_eq_true (by as_aux_lemma=>kernel_rfl)) ⟨n0,t0⟩ (fun p hp=>hb.same (hlt p hp)) (fun p hp=>hsp p hp)))
  (fun _ _=>rfl) (by simp)
  (hb.frame _) hf (ok_one (by as_aux_lemma=>kernel_rfl) rfl (okWide_bool_mk Tryz.underlying4 _))⟩
set_option maxHeartbeats 4000000 in
theorem jf:joinedFacts Tryz.prog 8 Tryz.f8 Rows.fnExactParseStmtSpec Rows.fnExactParseStmtRow=true:=by
 unfold joinedFacts
 refine Bool.and_eq_true_iff.2 ⟨Bool.and_eq_true_iff.2 ⟨Bool.and_eq_true_iff.2 ⟨Bool.and_eq_true_iff.2 ⟨Bool.and_eq_true_iff.2 ⟨Bool.and_eq_true_iff.2 ⟨Bool.and_eq_true_iff.2 ⟨Bool.and_eq_true_iff.2 ⟨Bool.and_eq_true_iff.2 ⟨Bool.and_eq_true_iff.2 ⟨Bool.and_eq_true_iff.2 ⟨Bool.and_eq_true_iff.2 ⟨Bool.and_eq_true_iff.2 ⟨Bool.and_eq_true_iff.2 ⟨Bool.and_eq_true_iff.2 ⟨Bool.and_eq_true_iff.2 ⟨Bool.and_eq_true_iff.2 ⟨Bool.and_eq_true_iff.2 ⟨Bool.and_eq_true_iff.2 ⟨Bool.and_eq_true_iff.2 ⟨Bool.and_eq_true_iff.2 ⟨Bool.and_eq_true_iff.2 ⟨Bool.and_eq_true_iff.2 ⟨Bool.and_eq_true_iff.2 ⟨Bool.and_eq_true_iff.2 ⟨Bool.and_eq_true_iff.2 ⟨Bool.and_eq_true_iff.2 ⟨Bool.and_eq_true_iff.2 ⟨Bool.and_eq_true_iff.2 ⟨Bool.and_eq_true_iff.2 ⟨Bool.and_eq_true_iff.2 ⟨?_,?_⟩,?_⟩,?_⟩,?_⟩,?_⟩,?_⟩,?_⟩,?_⟩,?_⟩,?_⟩,?_⟩,?_⟩,?_⟩,?_⟩,?_⟩,?_⟩,?_⟩,?_⟩,?_⟩,?_⟩,?_⟩,?_⟩,?_⟩,?_⟩,?_⟩,?_⟩,?_⟩,?_⟩,?_⟩,?_⟩,?_⟩
 all_goals as_aux_lemma=>kernel_rfl
theorem rd:Tryz.prog.funcNamed Rows.fnExactParseStmtRow.func=some 8:=by kernel_rfl
set_option maxHeartbeats 4000000 in
theorem over:Rows.fnExactParseStmtRow.holds Tryz.pinned (OpenSpec.ofChange Rows.fnExactParseStmtSpec):=
 OpenClaim.holds_of_wide 8 Tryz.f8 rfl rfl rfl rfl rfl rfl rfl ⟨rfl,rfl,rfl,rfl,rfl⟩ rfl rfl rfl rfl rfl rd Tryz.func8 jf
  (of_decide_eq_true (by as_aux_lemma=>kernel_rfl)) (by unfold Func.isWrapper;first|(rw[if_pos (by decide +kernel)];kernel_rfl)|(rw[if_neg (by decide +kernel)];exact⟨rfl,rfl⟩))
  (fun os started H enc _=>xv os started H enc)
set_option maxHeartbeats 4000000 in
theorem proved:Rows.FnExactParseStmtCardSaid:=
 Claim7.holds_tied_plain_at .later [] [.data,.data,.data,.data,.sentinel,.sentinel,.pinned] true (true, "d117c1e6b76b058e49b910101838f26852bd41ec55806f975281d979b3de11dc") true over (fun _ h=>by cases h) (by as_aux_lemma=>kernel_rfl) (fun _ h=>by cases h) fnExactParseStmt_row_tie rfl ⟨rfl,rfl⟩ (by as_aux_lemma=>kernel_rfl) rfl
  (fun f fn hf hfn=>by
    obtain rfl:f=8:=Option.some.inj (rd.symm.trans hf) |>.symm
    obtain rfl:fn=Tryz.f8:=(Option.some.inj (Tryz.func8.symm.trans hfn)).symm
    exact⟨by as_aux_lemma=>kernel_rfl,fun j t ht=>by
     rw[Tryz.params8] at ht
     have hm:t∈[9]:=by simpa using Array.mem_of_getElem? ht
     have hall:([9].all fun u=>!Tryz.prog.wantsStandIn u)=true:=by as_aux_lemma=>kernel_rfl
     exact (show Tryz.prog.wantsStandIn t=false by simpa using List.all_eq_true.1 hall t hm)⟩)
  (by as_aux_lemma=>kernel_rfl)
#print axioms proved
end fnExactParseStmt
end Go.Proofs.YteffjmaadkkmeaaGreatDoor
