/- Lemmas.
-/
import Derived.Test.YtknmnhleicakhaaGreatDoorPtPutB
set_option linter.all false
set_option maxHeartbeats 16000000
set_option maxRecDepth 100000
namespace Go.Proofs.YtknmnhleicakhaaGreatDoor
open Go.Proofs.Tryz
open Go.RowKit
theorem do_putJ (q:ReqD) (base gn gw:Nat) (q1 q2 q3:Zoa) (d1 d2 d3:Nat) (s:St) (now:Int) (w:World) (hM:WorkM w base gn gw q1 q2 q3 d1 d2 d3 s now) (hbw:base<=w.heap.size) (F:Fine s) (hT:∀W,Below base w W->Tabs W) (hq:reqE q=0) (hkind:q.kind=1) :
  Calls prog 71 #[zse gw,.agg (qv q)] w fun e w'=>vxv w base gn gw (doW ⟨s,now⟩ q) e w':=by
 have hE:jobE q.job=0:=by have:=(vwk hq).2.2;unfold partE at this;simpa[hkind] using this
 have hD:doW ⟨s,now⟩ q=(⟨{ s with jobs:=putL JobD.name s.jobs q.job },now⟩,uqp { s with jobs:=putL JobD.name s.jobs q.job }):=by unfold doW;simp[hkind]
 have hz:=sz_putJ F hE
 have HP:=zrj (fun(W:World) (c:Nat) (p:Zoa) (hO:Own W base 38 5 p c (s.jobs.map rowJ)) (hb:base<=W.heap.size)=>xwg s.jobs q.job base p c W hO hb F.sj (by have:=F.nj;omega))
 have HD:=zrj hD
 have HZ:=zrj hz
 have HT:=zrj hT
 have hb0:Below w.heap.size w ((w.alloc (.cells #[zse gw] 172)).alloc (.cells (qv q) 44)):=((zri _ _).alloc (zra _) _).alloc (by simp) _
 have hs1:=zsb w (.cells #[zse gw] 172)
 have bb:=(Blk.new w 172 #[zse gw]).alloc (.cells (qv q) 44)
 have bq:Blk ((w.alloc (.cells #[zse gw] 172)).alloc (.cells (qv q) 44)) (w.heap.size+1) 44 (qv q):=by have:=Blk.new (w.alloc (.cells #[zse gw] 172)) 44 (qv q);rwa [hs1] at this
 have hM0:=hM.below hb0
 have hbw0:=zrc hbw hb0.size
 have hB0:Below base w ((w.alloc (.cells #[zse gw] 172)).alloc (.cells (qv q) 44)):=hb0.mono hbw
 have hK0:=Kp.below hb0
 have hS0:=hb0.size
 clear hM hb0 hs1
 have kk1:=zsd hkind 1
 clear hkind hq hE hD hz hT F
 go_enter func71,ntmps71
 go_upto_region 1 with fail
 generalize(w.alloc _).alloc _=w0 at *
 have x0:=bq.c0
 go_upto_region 4 with fail
 clear x0
 have G0:Blk w0.drew w.heap.size 172 #[zse gw]/\Blk w0.drew gw 174 #[zse gn,.int .i64 now]/\Blk w0.drew (w.heap.size+1) 44 (qv q):=⟨bb.drew,hM0.bw.drew,bq.drew⟩
 have y0:w0.drew.cell? ⟨gn,1,none⟩=some (.slice q1 s.jobs.length d1):=hM0.bn.cell 1
 refine wp_region_held_drew (S:=fun W=>Blk W w.heap.size 172 #[zse gw]/\Blk W gw 174 #[zse gn,.int .i64 now]/\Blk W (w.heap.size+1) 44 (qv q)) (by kernel_rfl) G0 (fun hHeld=>?_)
 refine tq 0 ?_
 refine tq 1 ?_
 refine tq 2 ?_
 refine tq 3 ?_
 refine tq 4 ?_
 refine tq 5 ?_
 refine tq 6 ?_
 refine tq 7 ?_
 refine tq 8 ?_
 refine tq 9 ?_
 refine tq 11 ?_
 refine tq 12 ?_
 refine tr 10 rfl (fun K hK=>?_)
 go_simp
 refine hK.out _ _ G0 (fun hHeld=>?_)
 clear hK K
 (try simp only[Act.put,ma,mb,mc,md,me,mf])
 refine tr 13 rfl (fun K hK=>?_)
 go_simp
 refine(HP.out w0.drew d1 q1 (hM0.below ((zri _ w0).drew)).own.j hbw0).mono ?_
 rintro e w1 ⟨p',c',rfl,hO,hTc,_⟩
 have G1:Blk w1 w.heap.size 172 #[zse gw]/\Blk w1 gw 174 #[zse gn,.int .i64 now]/\Blk w1 (w.heap.size+1) 44 (qv q):=⟨hTc.blk G0.1 (by decide),hTc.blk G0.2.1 (by decide),hTc.blk G0.2.2 (by decide)⟩
 have bn1:=hTc.blk hM0.bn.drew (by decide)
 have y1:=bn1.c1
 have y2:w1.frozen? ⟨gn,1,none⟩=false:=bn1.frozen 1
 refine hK.out _ _ G1 (fun hHeld=>?_)
 clear hK K
 (try simp only[Act.put,ma,mb,mc,md,me,mf])
 refine tq 14 ?_
 refine tq 15 ?_
 have n1:=G1.1.ne_ bn1 (by decide)
 have n2:=G1.2.1.ne_ bn1 (by decide)
 have n3:=G1.2.2.ne_ bn1 (by decide)
 have G2:Blk (w1.setCell ⟨gn,1,none⟩ (.slice p' (putL JobD.name s.jobs q.job).length c')) w.heap.size 172 #[zse gw]/\Blk (w1.setCell ⟨gn,1,none⟩ (.slice p' (putL JobD.name s.jobs q.job).length c')) gw 174 #[zse gn,.int .i64 now]/\Blk (w1.setCell ⟨gn,1,none⟩ (.slice p' (putL JobD.name s.jobs q.job).length c')) (w.heap.size+1) 44 (qv q):=⟨G1.1.far (p:=⟨gn,1,none⟩) n1 _,G1.2.1.far (p:=⟨gn,1,none⟩) n2 _,G1.2.2.far (p:=⟨gn,1,none⟩) n3 _⟩
 refine tr 16 rfl (fun K hK=>?_)
 go_simp
 refine hK.out _ _ G2 (fun hHeld=>?_)
 clear hK K
 (try simp only[Act.put,ma,mb,mc,md,me,mf])
 refine wpAnyH_done (by kernel_rfl) ?_ _
 have hTc:=Tch.after ((zri _ w0).drew) hTc
 have hM2:=hM0.setJ hTc hO
 have hK2:=hK0.trans ((Kp.tchJ hTc).trans (Kp.cell bn1 (by simp) 1 (.slice p' (putL JobD.name s.jobs q.job).length c')))
 have hB2:Below base w (w1.setCell ⟨gn,1,none⟩ (.slice p' (putL JobD.name s.jobs q.job).length c')):=(hTc.low hB0 hbw0).setCell (p:=⟨gn,1,none⟩) hM0.hn _
 have hS2:w.heap.size<=(w1.setCell ⟨gn,1,none⟩ (.slice p' (putL JobD.name s.jobs q.job).length c')).heap.size:=by have:=vxu hTc;simp;omega
 generalize w1.setCell _ _=w2 at *
 have hC:=uxw { s with jobs:=putL JobD.name s.jobs q.job } p' q2 q3 c' d2 d3 w2 hM2.own.m HZ.out (HT.out w2 hB2)
 have bn2:Blk w2 gn 26 #[.int .i64 s.rev,.slice p' (putL JobD.name s.jobs q.job).length c',.slice q2 s.nodes.length d2,.slice q3 s.leases.length d3]:=hM2.bn
 have z0:=G2.1.c0
 have z1:=G2.2.1.c0
 have HC:=zrj hC
 have HM:=zrj hM2
 clear hC hM2 hM0 hTc hO bn1 G0 G1 n1 n2 n3 y0 y1 y2
 go_wp2_with(first | (refine uqw (by rfl) _ _ rfl gn rfl _ _ bn2 _ underlying26 rfl uqg ?_))
 refine HC.out.mono ?_
 rintro e w3 ⟨rfl,hb3⟩
 go_wp2_with fail
 go_ret
 refine⟨p',q2,q3,c',d2,d3,?_⟩
 rw[HD.out]
 exact⟨rfl,HM.out.below hb3,hB2.trans (hb3.mono (zrc hbw hS2)),hK2.trans (Kp.below hb3),zrc hS2 hb3.size⟩
theorem do_putN (q:ReqD) (base gn gw:Nat) (q1 q2 q3:Zoa) (d1 d2 d3:Nat) (s:St) (now:Int) (w:World) (hM:WorkM w base gn gw q1 q2 q3 d1 d2 d3 s now) (hbw:base<=w.heap.size) (F:Fine s) (hT:∀W,Below base w W->Tabs W) (hq:reqE q=0) (hkind:q.kind=2) :
  Calls prog 71 #[zse gw,.agg (qv q)] w fun e w'=>vxv w base gn gw (doW ⟨s,now⟩ q) e w':=by
 have hE:nodeE q.node=0:=by have:=(vwk hq).2.2;unfold partE at this;simpa[hkind] using this
 have hD:doW ⟨s,now⟩ q=(⟨{ s with nodes:=putL NodeD.name s.nodes q.node },now⟩,uqp { s with nodes:=putL NodeD.name s.nodes q.node }):=by unfold doW;simp[hkind]
 have hz:=sz_putN F hE
 have HP:=zrj (fun(W:World) (c:Nat) (p:Zoa) (hO:Own W base 40 3 p c (s.nodes.map rowN)) (hb:base<=W.heap.size)=>xwi s.nodes q.node base p c W hO hb F.sn (by have:=F.nn;omega))
 have HD:=zrj hD
 have HZ:=zrj hz
 have HT:=zrj hT
 have hb0:Below w.heap.size w ((w.alloc (.cells #[zse gw] 172)).alloc (.cells (qv q) 44)):=((zri _ _).alloc (zra _) _).alloc (by simp) _
 have hs1:=zsb w (.cells #[zse gw] 172)
 have bb:=(Blk.new w 172 #[zse gw]).alloc (.cells (qv q) 44)
 have bq:Blk ((w.alloc (.cells #[zse gw] 172)).alloc (.cells (qv q) 44)) (w.heap.size+1) 44 (qv q):=by have:=Blk.new (w.alloc (.cells #[zse gw] 172)) 44 (qv q);rwa [hs1] at this
 have hM0:=hM.below hb0
 have hbw0:=zrc hbw hb0.size
 have hB0:Below base w ((w.alloc (.cells #[zse gw] 172)).alloc (.cells (qv q) 44)):=hb0.mono hbw
 have hK0:=Kp.below hb0
 have hS0:=hb0.size
 clear hM hb0 hs1
 have kk1:=zsc hkind 1
 have kk2:=zsd hkind 2
 clear hkind hq hE hD hz hT F
 go_enter func71,ntmps71
 go_upto_region 1 with fail
 generalize(w.alloc _).alloc _=w0 at *
 have x0:=bq.c0
 go_upto_region 7 with fail
 clear x0
 have G0:Blk w0.drew w.heap.size 172 #[zse gw]/\Blk w0.drew gw 174 #[zse gn,.int .i64 now]/\Blk w0.drew (w.heap.size+1) 44 (qv q):=⟨bb.drew,hM0.bw.drew,bq.drew⟩
 have y0:w0.drew.cell? ⟨gn,2,none⟩=some (.slice q2 s.nodes.length d2):=hM0.bn.cell 2
 refine wp_region_held_drew (S:=fun W=>Blk W w.heap.size 172 #[zse gw]/\Blk W gw 174 #[zse gn,.int .i64 now]/\Blk W (w.heap.size+1) 44 (qv q)) (by kernel_rfl) G0 (fun hHeld=>?_)
 refine tq 0 ?_
 refine tq 1 ?_
 refine tq 2 ?_
 refine tq 3 ?_
 refine tq 4 ?_
 refine tq 5 ?_
 refine tq 6 ?_
 refine tq 7 ?_
 refine tq 8 ?_
 refine tq 9 ?_
 refine tq 11 ?_
 refine tq 12 ?_
 refine tr 10 rfl (fun K hK=>?_)
 go_simp
 refine hK.out _ _ G0 (fun hHeld=>?_)
 clear hK K
 (try simp only[Act.put,ma,mb,mc,md,me,mf])
 refine tr 13 rfl (fun K hK=>?_)
 go_simp
 refine(HP.out w0.drew d2 q2 (hM0.below ((zri _ w0).drew)).own.n hbw0).mono ?_
 rintro e w1 ⟨p',c',rfl,hO,hTc,_⟩
 have G1:Blk w1 w.heap.size 172 #[zse gw]/\Blk w1 gw 174 #[zse gn,.int .i64 now]/\Blk w1 (w.heap.size+1) 44 (qv q):=⟨hTc.blk G0.1 (by decide),hTc.blk G0.2.1 (by decide),hTc.blk G0.2.2 (by decide)⟩
 have bn1:=hTc.blk hM0.bn.drew (by decide)
 have y1:=bn1.c2
 have y2:w1.frozen? ⟨gn,2,none⟩=false:=bn1.frozen 2
 refine hK.out _ _ G1 (fun hHeld=>?_)
 clear hK K
 (try simp only[Act.put,ma,mb,mc,md,me,mf])
 refine tq 14 ?_
 refine tq 15 ?_
 have n1:=G1.1.ne_ bn1 (by decide)
 have n2:=G1.2.1.ne_ bn1 (by decide)
 have n3:=G1.2.2.ne_ bn1 (by decide)
 have G2:Blk (w1.setCell ⟨gn,2,none⟩ (.slice p' (putL NodeD.name s.nodes q.node).length c')) w.heap.size 172 #[zse gw]/\Blk (w1.setCell ⟨gn,2,none⟩ (.slice p' (putL NodeD.name s.nodes q.node).length c')) gw 174 #[zse gn,.int .i64 now]/\Blk (w1.setCell ⟨gn,2,none⟩ (.slice p' (putL NodeD.name s.nodes q.node).length c')) (w.heap.size+1) 44 (qv q):=⟨G1.1.far (p:=⟨gn,2,none⟩) n1 _,G1.2.1.far (p:=⟨gn,2,none⟩) n2 _,G1.2.2.far (p:=⟨gn,2,none⟩) n3 _⟩
 refine tr 16 rfl (fun K hK=>?_)
 go_simp
 refine hK.out _ _ G2 (fun hHeld=>?_)
 clear hK K
 (try simp only[Act.put,ma,mb,mc,md,me,mf])
 refine wpAnyH_done (by kernel_rfl) ?_ _
 have hTc:=Tch.after ((zri _ w0).drew) hTc
 have hM2:=hM0.setN hTc hO
 have hK2:=hK0.trans ((Kp.tchN hTc).trans (Kp.cell bn1 (by simp) 2 (.slice p' (putL NodeD.name s.nodes q.node).length c')))
 have hB2:Below base w (w1.setCell ⟨gn,2,none⟩ (.slice p' (putL NodeD.name s.nodes q.node).length c')):=(hTc.low hB0 hbw0).setCell (p:=⟨gn,2,none⟩) hM0.hn _
 have hS2:w.heap.size<=(w1.setCell ⟨gn,2,none⟩ (.slice p' (putL NodeD.name s.nodes q.node).length c')).heap.size:=by have:=vxu hTc;simp;omega
 generalize w1.setCell _ _=w2 at *
 have hC:=uxw { s with nodes:=putL NodeD.name s.nodes q.node } q1 p' q3 d1 c' d3 w2 hM2.own.m HZ.out (HT.out w2 hB2)
 have bn2:Blk w2 gn 26 #[.int .i64 s.rev,.slice q1 s.jobs.length d1,.slice p' (putL NodeD.name s.nodes q.node).length c',.slice q3 s.leases.length d3]:=hM2.bn
 have z0:=G2.1.c0
 have z1:=G2.2.1.c0
 have HC:=zrj hC
 have HM:=zrj hM2
 clear hC hM2 hM0 hTc hO bn1 G0 G1 n1 n2 n3 y0 y1 y2
 go_wp2_with(first | (refine uqw (by rfl) _ _ rfl gn rfl _ _ bn2 _ underlying26 rfl uqg ?_))
 refine HC.out.mono ?_
 rintro e w3 ⟨rfl,hb3⟩
 go_wp2_with fail
 go_ret
 refine⟨q1,p',q3,d1,c',d3,?_⟩
 rw[HD.out]
 exact⟨rfl,HM.out.below hb3,hB2.trans (hb3.mono (zrc hbw hS2)),hK2.trans (Kp.below hb3),zrc hS2 hb3.size⟩
theorem do_delJ (q:ReqD) (base gn gw:Nat) (q1 q2 q3:Zoa) (d1 d2 d3:Nat) (s:St) (now:Int) (w:World) (hM:WorkM w base gn gw q1 q2 q3 d1 d2 d3 s now) (hbw:base<=w.heap.size) (F:Fine s) (hT:∀W,Below base w W->Tabs W) (hq:reqE q=0) (hkind:q.kind=3) :
  Calls prog 71 #[zse gw,.agg (qv q)] w fun e w'=>vxv w base gn gw (doW ⟨s,now⟩ q) e w':=by
 have hD:doW ⟨s,now⟩ q=(⟨{ s with jobs:=takeL JobD.name s.jobs q.name,leases:=s.leases.filter fun l => !decide (l.job=q.name) },now⟩,if hasL JobD.name s.jobs q.name=true then 0 else 6):=by unfold doW;simp[hkind]
 have HP:=zrj (fun(W:World) (c:Nat) (p:Zoa) (hO:Own W base 38 5 p c (s.jobs.map rowJ))=>xjc s.jobs q.name base p c W hO F.sj (by have:=F.nj;omega))
 have HD:=zrj hD
 have hll:=F.nl
 generalize hhs:hasL JobD.name s.jobs q.name=hs at *
 have hb0:Below w.heap.size w ((w.alloc (.cells #[zse gw] 172)).alloc (.cells (qv q) 44)):=((zri _ _).alloc (zra _) _).alloc (by simp) _
 have hs1:=zsb w (.cells #[zse gw] 172)
 have bb:=(Blk.new w 172 #[zse gw]).alloc (.cells (qv q) 44)
 have bq:Blk ((w.alloc (.cells #[zse gw] 172)).alloc (.cells (qv q) 44)) (w.heap.size+1) 44 (qv q):=by have:=Blk.new (w.alloc (.cells #[zse gw] 172)) 44 (qv q);rwa [hs1] at this
 have hM0:=hM.below hb0
 have hbw0:=zrc hbw hb0.size
 have hB0:Below base w ((w.alloc (.cells #[zse gw] 172)).alloc (.cells (qv q) 44)):=hb0.mono hbw
 have hK0:=Kp.below hb0
 have hS0:=hb0.size
 clear hM hb0 hs1
 have kk1:=zsc hkind 1
 have kk2:=zsc hkind 2
 have kk3:=zsd hkind 3
 clear hkind hq hD hT F hhs
 go_enter func71,ntmps71
 go_upto_region 1 with fail
 generalize(w.alloc _).alloc _=w0 at *
 have x0:=bq.c0
 go_upto_region 10 with fail
 clear x0
 have G0:Blk w0.drew w.heap.size 172 #[zse gw]/\Blk w0.drew gw 174 #[zse gn,.int .i64 now]/\Blk w0.drew (w.heap.size+1) 44 (qv q):=⟨bb.drew,hM0.bw.drew,bq.drew⟩
 have y0:w0.drew.cell? ⟨gn,1,none⟩=some (.slice q1 s.jobs.length d1):=hM0.bn.cell 1
 refine wp_region_held_drew (S:=fun W=>Blk W w.heap.size 172 #[zse gw]/\Blk W gw 174 #[zse gn,.int .i64 now]/\Blk W (w.heap.size+1) 44 (qv q)) (by kernel_rfl) G0 (fun hHeld=>?_)
 refine tq 0 ?_
 refine tq 1 ?_
 refine tq 2 ?_
 refine tq 3 ?_
 refine tq 4 ?_
 refine tq 5 ?_
 refine tq 6 ?_
 refine tq 7 ?_
 refine tq 8 ?_
 refine tq 9 ?_
 refine tq 11 ?_
 refine tq 12 ?_
 refine tr 10 rfl (fun K hK=>?_)
 go_simp
 refine hK.out _ _ G0 (fun hHeld=>?_)
 clear hK K
 (try simp only[Act.put,ma,mb,mc,md,me,mf])
 refine tr 13 rfl (fun K hK=>?_)
 go_simp
 refine(HP.out w0.drew d1 q1 (hM0.below ((zri _ w0).drew)).own.j).mono ?_
 rintro e w1 ⟨p',c',rfl,hO,hTc⟩
 have G1:Blk w1 w.heap.size 172 #[zse gw]/\Blk w1 gw 174 #[zse gn,.int .i64 now]/\Blk w1 (w.heap.size+1) 44 (qv q):=⟨hTc.blk G0.1 (by decide),hTc.blk G0.2.1 (by decide),hTc.blk G0.2.2 (by decide)⟩
 have bn1:=hTc.blk hM0.bn.drew (by decide)
 have y1:=bn1.c1
 have y2:w1.frozen? ⟨gn,1,none⟩=false:=bn1.frozen 1
 refine hK.out _ _ G1 (fun hHeld=>?_)
 clear hK K
 (try simp only[Act.put,ma,mb,mc,md,me,mf])
 refine tq 14 ?_
 refine tq 15 ?_
 refine tq 16 ?_
 refine tq 17 ?_
 refine tq 18 ?_
 have n1:=G1.1.ne_ bn1 (by decide)
 have n2:=G1.2.1.ne_ bn1 (by decide)
 have n3:=G1.2.2.ne_ bn1 (by decide)
 have G2:Blk (w1.setCell ⟨gn,1,none⟩ (.slice p' (takeL JobD.name s.jobs q.name).length c')) w.heap.size 172 #[zse gw]/\Blk (w1.setCell ⟨gn,1,none⟩ (.slice p' (takeL JobD.name s.jobs q.name).length c')) gw 174 #[zse gn,.int .i64 now]/\Blk (w1.setCell ⟨gn,1,none⟩ (.slice p' (takeL JobD.name s.jobs q.name).length c')) (w.heap.size+1) 44 (qv q):=⟨G1.1.far (p:=⟨gn,1,none⟩) n1 _,G1.2.1.far (p:=⟨gn,1,none⟩) n2 _,G1.2.2.far (p:=⟨gn,1,none⟩) n3 _⟩
 refine tr 19 rfl (fun K hK=>?_)
 go_simp
 refine hK.out _ _ G2 (fun hHeld=>?_)
 clear hK K
 (try simp only[Act.put,ma,mb,mc,md,me,mf])
 refine tq 20 ?_
 refine wpAnyH_done (by kernel_rfl) ?_ _
 have hTc:=Tch.after ((zri _ w0).drew) hTc
 have hM2:=hM0.setJ hTc hO
 have hK2:=hK0.trans ((Kp.tchJ hTc).trans (Kp.cell bn1 (by simp) 1 (.slice p' (takeL JobD.name s.jobs q.name).length c')))
 have hB2:Below base w (w1.setCell ⟨gn,1,none⟩ (.slice p' (takeL JobD.name s.jobs q.name).length c')):=(hTc.low hB0 hbw0).setCell (p:=⟨gn,1,none⟩) hM0.hn _
 have hS2:w.heap.size<=(w1.setCell ⟨gn,1,none⟩ (.slice p' (takeL JobD.name s.jobs q.name).length c')).heap.size:=by have:=vxu hTc;simp;omega
 generalize w1.setCell _ _=w2 at *
 have hbw2:base<=w2.heap.size:=zrc hbw hS2
 obtain⟨bb2,bw2,bq2⟩:=G2
 clear hM0 hTc hO bn1 G0 G1 n1 n2 n3 y0 y1 y2 hHeld
 have hfn:FnOk prog w2 112 #[zse (w.heap.size+1)] rowL (fun l=>decide (l.job=q.name)) s.leases:=⟨fun args W=>by kernel_rfl,fun x _ W hW=>xkk (w.heap.size+1) x q.name W ((bq2.bl hW).cell 12) (bq2.bl hW).lt⟩
 have hfg:∀g cur,base<=g->Blk w2 g 42 cur->FnOkG prog w2 g 112 #[zse (w.heap.size+1)] rowL (fun l=>decide (l.job=q.name)) s.leases:=fun g cur _ hb=>⟨fun args W=>by kernel_rfl,fun x _ W hW=>by
  have b3:=GrB.blk hW bq2 (bq2.ne_ hb (by decide))
  exact xkk (w.heap.size+1) x q.name W (b3.cell 12) b3.lt⟩
 have HW:=zrj (vzm _ _ _ base gn gw _ _ _ _ _ _ _ now w2 hM2 hbw2 (by show s.leases.length<=1000;omega) hfn hfg)
 have z0:=bb2.c0
 clear hM2 hfn hfg bb2 bw2 bq2
 go_wp2_with fail
 refine HW.out.mono ?_
 rintro e w3 ⟨rfl,q',d',hM3,hB3,hK3,hS3⟩
 cases hs
 ·go_wp2_with fail
  go_ret
  refine⟨p',q2,q',c',d2,d',?_⟩
  rw[HD.out]
  exact⟨rfl,hM3,hB2.trans hB3,hK2.trans hK3,zrc hS2 hS3⟩
 ·go_wp2_with fail
  go_ret
  refine⟨p',q2,q',c',d2,d',?_⟩
  rw[HD.out]
  exact⟨rfl,hM3,hB2.trans hB3,hK2.trans hK3,zrc hS2 hS3⟩
theorem do_delN (q:ReqD) (base gn gw:Nat) (q1 q2 q3:Zoa) (d1 d2 d3:Nat) (s:St) (now:Int) (w:World) (hM:WorkM w base gn gw q1 q2 q3 d1 d2 d3 s now) (hbw:base<=w.heap.size) (F:Fine s) (hT:∀W,Below base w W->Tabs W) (hq:reqE q=0) (hkind:q.kind=4) :
  Calls prog 71 #[zse gw,.agg (qv q)] w fun e w'=>vxv w base gn gw (doW ⟨s,now⟩ q) e w':=by
 have hD:doW ⟨s,now⟩ q=(⟨{ s with nodes:=takeL NodeD.name s.nodes q.name,leases:=s.leases.filter fun l => !decide (l.node=q.name) },now⟩,if hasL NodeD.name s.nodes q.name=true then 0 else 6):=by unfold doW;simp[hkind]
 have HP:=zrj (fun(W:World) (c:Nat) (p:Zoa) (hO:Own W base 40 3 p c (s.nodes.map rowN))=>xje s.nodes q.name base p c W hO F.sn (by have:=F.nn;omega))
 have HD:=zrj hD
 have hll:=F.nl
 generalize hhs:hasL NodeD.name s.nodes q.name=hs at *
 have hb0:Below w.heap.size w ((w.alloc (.cells #[zse gw] 172)).alloc (.cells (qv q) 44)):=((zri _ _).alloc (zra _) _).alloc (by simp) _
 have hs1:=zsb w (.cells #[zse gw] 172)
 have bb:=(Blk.new w 172 #[zse gw]).alloc (.cells (qv q) 44)
 have bq:Blk ((w.alloc (.cells #[zse gw] 172)).alloc (.cells (qv q) 44)) (w.heap.size+1) 44 (qv q):=by have:=Blk.new (w.alloc (.cells #[zse gw] 172)) 44 (qv q);rwa [hs1] at this
 have hM0:=hM.below hb0
 have hbw0:=zrc hbw hb0.size
 have hB0:Below base w ((w.alloc (.cells #[zse gw] 172)).alloc (.cells (qv q) 44)):=hb0.mono hbw
 have hK0:=Kp.below hb0
 have hS0:=hb0.size
 clear hM hb0 hs1
 have kk1:=zsc hkind 1
 have kk2:=zsc hkind 2
 have kk3:=zsc hkind 3
 have kk4:=zsd hkind 4
 clear hkind hq hD hT F hhs
 go_enter func71,ntmps71
 go_upto_region 1 with fail
 generalize(w.alloc _).alloc _=w0 at *
 have x0:=bq.c0
 go_upto_region 13 with fail
 clear x0
 have G0:Blk w0.drew w.heap.size 172 #[zse gw]/\Blk w0.drew gw 174 #[zse gn,.int .i64 now]/\Blk w0.drew (w.heap.size+1) 44 (qv q):=⟨bb.drew,hM0.bw.drew,bq.drew⟩
 have y0:w0.drew.cell? ⟨gn,2,none⟩=some (.slice q2 s.nodes.length d2):=hM0.bn.cell 2
 refine wp_region_held_drew (S:=fun W=>Blk W w.heap.size 172 #[zse gw]/\Blk W gw 174 #[zse gn,.int .i64 now]/\Blk W (w.heap.size+1) 44 (qv q)) (by kernel_rfl) G0 (fun hHeld=>?_)
 refine tq 0 ?_
 refine tq 1 ?_
 refine tq 2 ?_
 refine tq 3 ?_
 refine tq 4 ?_
 refine tq 5 ?_
 refine tq 6 ?_
 refine tq 7 ?_
 refine tq 8 ?_
 refine tq 9 ?_
 refine tq 11 ?_
 refine tq 12 ?_
 refine tr 10 rfl (fun K hK=>?_)
 go_simp
 refine hK.out _ _ G0 (fun hHeld=>?_)
 clear hK K
 (try simp only[Act.put,ma,mb,mc,md,me,mf])
 refine tr 13 rfl (fun K hK=>?_)
 go_simp
 refine(HP.out w0.drew d2 q2 (hM0.below ((zri _ w0).drew)).own.n).mono ?_
 rintro e w1 ⟨p',c',rfl,hO,hTc⟩
 have G1:Blk w1 w.heap.size 172 #[zse gw]/\Blk w1 gw 174 #[zse gn,.int .i64 now]/\Blk w1 (w.heap.size+1) 44 (qv q):=⟨hTc.blk G0.1 (by decide),hTc.blk G0.2.1 (by decide),hTc.blk G0.2.2 (by decide)⟩
 have bn1:=hTc.blk hM0.bn.drew (by decide)
 have y1:=bn1.c2
 have y2:w1.frozen? ⟨gn,2,none⟩=false:=bn1.frozen 2
 refine hK.out _ _ G1 (fun hHeld=>?_)
 clear hK K
 (try simp only[Act.put,ma,mb,mc,md,me,mf])
 refine tq 14 ?_
 refine tq 15 ?_
 refine tq 16 ?_
 refine tq 17 ?_
 refine tq 18 ?_
 have n1:=G1.1.ne_ bn1 (by decide)
 have n2:=G1.2.1.ne_ bn1 (by decide)
 have n3:=G1.2.2.ne_ bn1 (by decide)
 have G2:Blk (w1.setCell ⟨gn,2,none⟩ (.slice p' (takeL NodeD.name s.nodes q.name).length c')) w.heap.size 172 #[zse gw]/\Blk (w1.setCell ⟨gn,2,none⟩ (.slice p' (takeL NodeD.name s.nodes q.name).length c')) gw 174 #[zse gn,.int .i64 now]/\Blk (w1.setCell ⟨gn,2,none⟩ (.slice p' (takeL NodeD.name s.nodes q.name).length c')) (w.heap.size+1) 44 (qv q):=⟨G1.1.far (p:=⟨gn,2,none⟩) n1 _,G1.2.1.far (p:=⟨gn,2,none⟩) n2 _,G1.2.2.far (p:=⟨gn,2,none⟩) n3 _⟩
 refine tr 19 rfl (fun K hK=>?_)
 go_simp
 refine hK.out _ _ G2 (fun hHeld=>?_)
 clear hK K
 (try simp only[Act.put,ma,mb,mc,md,me,mf])
 refine tq 20 ?_
 refine wpAnyH_done (by kernel_rfl) ?_ _
 have hTc:=Tch.after ((zri _ w0).drew) hTc
 have hM2:=hM0.setN hTc hO
 have hK2:=hK0.trans ((Kp.tchN hTc).trans (Kp.cell bn1 (by simp) 2 (.slice p' (takeL NodeD.name s.nodes q.name).length c')))
 have hB2:Below base w (w1.setCell ⟨gn,2,none⟩ (.slice p' (takeL NodeD.name s.nodes q.name).length c')):=(hTc.low hB0 hbw0).setCell (p:=⟨gn,2,none⟩) hM0.hn _
 have hS2:w.heap.size<=(w1.setCell ⟨gn,2,none⟩ (.slice p' (takeL NodeD.name s.nodes q.name).length c')).heap.size:=by have:=vxu hTc;simp;omega
 generalize w1.setCell _ _=w2 at *
 have hbw2:base<=w2.heap.size:=zrc hbw hS2
 obtain⟨bb2,bw2,bq2⟩:=G2
 clear hM0 hTc hO bn1 G0 G1 n1 n2 n3 y0 y1 y2 hHeld
 have hfn:FnOk prog w2 114 #[zse (w.heap.size+1)] rowL (fun l=>decide (l.node=q.name)) s.leases:=⟨fun args W=>by kernel_rfl,fun x _ W hW=>xkl (w.heap.size+1) x q.name W ((bq2.bl hW).cell 12) (bq2.bl hW).lt⟩
 have hfg:∀g cur,base<=g->Blk w2 g 42 cur->FnOkG prog w2 g 114 #[zse (w.heap.size+1)] rowL (fun l=>decide (l.node=q.name)) s.leases:=fun g cur _ hb=>⟨fun args W=>by kernel_rfl,fun x _ W hW=>by
  have b3:=GrB.blk hW bq2 (bq2.ne_ hb (by decide))
  exact xkl (w.heap.size+1) x q.name W (b3.cell 12) b3.lt⟩
 have HW:=zrj (vzm _ _ _ base gn gw _ _ _ _ _ _ _ now w2 hM2 hbw2 (by show s.leases.length<=1000;omega) hfn hfg)
 have z0:=bb2.c0
 clear hM2 hfn hfg bb2 bw2 bq2
 go_wp2_with fail
 refine HW.out.mono ?_
 rintro e w3 ⟨rfl,q',d',hM3,hB3,hK3,hS3⟩
 cases hs
 ·go_wp2_with fail
  go_ret
  refine⟨q1,p',q',d1,c',d',?_⟩
  rw[HD.out]
  exact⟨rfl,hM3,hB2.trans hB3,hK2.trans hK3,zrc hS2 hS3⟩
 ·go_wp2_with fail
  go_ret
  refine⟨q1,p',q',d1,c',d',?_⟩
  rw[HD.out]
  exact⟨rfl,hM3,hB2.trans hB3,hK2.trans hK3,zrc hS2 hS3⟩
theorem do_free (q:ReqD) (base gn gw:Nat) (q1 q2 q3:Zoa) (d1 d2 d3:Nat) (s:St) (now:Int) (w:World) (hM:WorkM w base gn gw q1 q2 q3 d1 d2 d3 s now) (hbw:base<=w.heap.size) (F:Fine s) (hT:∀W,Below base w W->Tabs W) (hq:reqE q=0) (hkind:q.kind=6) :
  Calls prog 71 #[zse gw,.agg (qv q)] w fun e w'=>vxv w base gn gw (doW ⟨s,now⟩ q) e w':=by
 have hD:doW ⟨s,now⟩ q=(⟨{ s with leases:=takeL uqb.job s.leases q.name },now⟩,if hasL uqb.job s.leases q.name=true then 0 else 6):=by unfold doW;simp[hkind]
 have HP:=zrj (fun(W:World) (c:Nat) (p:Zoa) (hO:Own W base 42 3 p c (s.leases.map rowL))=>xjd s.leases q.name base p c W hO F.sl (by have:=F.nl;omega))
 have HD:=zrj hD
 generalize hhs:hasL uqb.job s.leases q.name=hs at *
 have hb0:Below w.heap.size w ((w.alloc (.cells #[zse gw] 172)).alloc (.cells (qv q) 44)):=((zri _ _).alloc (zra _) _).alloc (by simp) _
 have hs1:=zsb w (.cells #[zse gw] 172)
 have bb:=(Blk.new w 172 #[zse gw]).alloc (.cells (qv q) 44)
 have bq:Blk ((w.alloc (.cells #[zse gw] 172)).alloc (.cells (qv q) 44)) (w.heap.size+1) 44 (qv q):=by have:=Blk.new (w.alloc (.cells #[zse gw] 172)) 44 (qv q);rwa [hs1] at this
 have hM0:=hM.below hb0
 have hbw0:=zrc hbw hb0.size
 have hB0:Below base w ((w.alloc (.cells #[zse gw] 172)).alloc (.cells (qv q) 44)):=hb0.mono hbw
 have hK0:=Kp.below hb0
 have hS0:=hb0.size
 clear hM hb0 hs1
 have kk1:=zsc hkind 1
 have kk2:=zsc hkind 2
 have kk3:=zsc hkind 3
 have kk4:=zsc hkind 4
 have kk5:=zsc hkind 5
 have kk6:=zsd hkind 6
 clear hkind hq hD hT F hhs
 go_enter func71,ntmps71
 go_upto_region 1 with fail
 generalize(w.alloc _).alloc _=w0 at *
 have x0:=bq.c0
 go_upto_region 18 with fail
 clear x0
 have G0:Blk w0.drew w.heap.size 172 #[zse gw]/\Blk w0.drew gw 174 #[zse gn,.int .i64 now]/\Blk w0.drew (w.heap.size+1) 44 (qv q):=⟨bb.drew,hM0.bw.drew,bq.drew⟩
 have y0:w0.drew.cell? ⟨gn,3,none⟩=some (.slice q3 s.leases.length d3):=hM0.bn.cell 3
 refine wp_region_held_drew (S:=fun W=>Blk W w.heap.size 172 #[zse gw]/\Blk W gw 174 #[zse gn,.int .i64 now]/\Blk W (w.heap.size+1) 44 (qv q)) (by kernel_rfl) G0 (fun hHeld=>?_)
 refine tq 0 ?_
 refine tq 1 ?_
 refine tq 2 ?_
 refine tq 3 ?_
 refine tq 4 ?_
 refine tq 5 ?_
 refine tq 6 ?_
 refine tq 7 ?_
 refine tq 8 ?_
 refine tq 9 ?_
 refine tq 11 ?_
 refine tq 12 ?_
 refine tr 10 rfl (fun K hK=>?_)
 go_simp
 refine hK.out _ _ G0 (fun hHeld=>?_)
 clear hK K
 (try simp only[Act.put,ma,mb,mc,md,me,mf])
 refine tr 13 rfl (fun K hK=>?_)
 go_simp
 refine(HP.out w0.drew d3 q3 (hM0.below ((zri _ w0).drew)).own.l).mono ?_
 rintro e w1 ⟨p',c',rfl,hO,hTc⟩
 have G1:Blk w1 w.heap.size 172 #[zse gw]/\Blk w1 gw 174 #[zse gn,.int .i64 now]/\Blk w1 (w.heap.size+1) 44 (qv q):=⟨hTc.blk G0.1 (by decide),hTc.blk G0.2.1 (by decide),hTc.blk G0.2.2 (by decide)⟩
 have bn1:=hTc.blk hM0.bn.drew (by decide)
 have y1:=bn1.c3
 have y2:w1.frozen? ⟨gn,3,none⟩=false:=bn1.frozen 3
 refine hK.out _ _ G1 (fun hHeld=>?_)
 clear hK K
 (try simp only[Act.put,ma,mb,mc,md,me,mf])
 refine tq 14 ?_
 refine tq 15 ?_
 refine tq 16 ?_
 refine tq 17 ?_
 refine tq 18 ?_
 have n1:=G1.1.ne_ bn1 (by decide)
 have n2:=G1.2.1.ne_ bn1 (by decide)
 have n3:=G1.2.2.ne_ bn1 (by decide)
 have G2:Blk (w1.setCell ⟨gn,3,none⟩ (.slice p' (takeL uqb.job s.leases q.name).length c')) w.heap.size 172 #[zse gw]/\Blk (w1.setCell ⟨gn,3,none⟩ (.slice p' (takeL uqb.job s.leases q.name).length c')) gw 174 #[zse gn,.int .i64 now]/\Blk (w1.setCell ⟨gn,3,none⟩ (.slice p' (takeL uqb.job s.leases q.name).length c')) (w.heap.size+1) 44 (qv q):=⟨G1.1.far (p:=⟨gn,3,none⟩) n1 _,G1.2.1.far (p:=⟨gn,3,none⟩) n2 _,G1.2.2.far (p:=⟨gn,3,none⟩) n3 _⟩
 refine tr 19 rfl (fun K hK=>?_)
 go_simp
 refine hK.out _ _ G2 (fun hHeld=>?_)
 clear hK K
 (try simp only[Act.put,ma,mb,mc,md,me,mf])
 refine tq 20 ?_
 refine wpAnyH_done (by kernel_rfl) ?_ _
 have hTc:=Tch.after ((zri _ w0).drew) hTc
 have hM2:=hM0.setL hTc hO
 have hK2:=hK0.trans ((Kp.tchL hTc).trans (Kp.cell bn1 (by simp) 3 (.slice p' (takeL uqb.job s.leases q.name).length c')))
 have hB2:Below base w (w1.setCell ⟨gn,3,none⟩ (.slice p' (takeL uqb.job s.leases q.name).length c')):=(hTc.low hB0 hbw0).setCell (p:=⟨gn,3,none⟩) hM0.hn _
 have hS2:w.heap.size<=(w1.setCell ⟨gn,3,none⟩ (.slice p' (takeL uqb.job s.leases q.name).length c')).heap.size:=by have:=vxu hTc;simp;omega
 generalize w1.setCell _ _=w2 at *
 have hbw2:base<=w2.heap.size:=zrc hbw hS2
 obtain⟨bb2,bw2,bq2⟩:=G2
 clear hM0 hTc hO bn1 G0 G1 n1 n2 n3 y0 y1 y2 hHeld
 clear bb2 bw2 bq2
 cases hs
 ·go_wp2_with fail
  go_ret
  refine⟨q1,q2,p',d1,d2,c',?_⟩
  rw[HD.out]
  exact⟨rfl,hM2,hB2,hK2,hS2⟩
 ·go_wp2_with fail
  go_ret
  refine⟨q1,q2,p',d1,d2,c',?_⟩
  rw[HD.out]
  exact⟨rfl,hM2,hB2,hK2,hS2⟩
theorem do_asks (q:ReqD) (base gn gw:Nat) (q1 q2 q3:Zoa) (d1 d2 d3:Nat) (s:St) (now:Int) (w:World) (hM:WorkM w base gn gw q1 q2 q3 d1 d2 d3 s now) (hbw:base<=w.heap.size) (F:Fine s) (hT:∀W,Below base w W->Tabs W) (hq:reqE q=0) (hkind:q.kind=8\/q.kind=9) :
  Calls prog 71 #[zse gw,.agg (qv q)] w fun e w'=>vxv w base gn gw (doW ⟨s,now⟩ q) e w':=by
 have hD:doW ⟨s,now⟩ q=(⟨s,now⟩,0):=wqu hkind
 have HD:=zrj hD
 have kk1:(q.kind == (1:Int))=false:=by rw[zrf];omega
 have kk2:(q.kind == (2:Int))=false:=by rw[zrf];omega
 have kk3:(q.kind == (3:Int))=false:=by rw[zrf];omega
 have kk4:(q.kind == (4:Int))=false:=by rw[zrf];omega
 have kk5:(q.kind == (5:Int))=false:=by rw[zrf];omega
 have kk6:(q.kind == (6:Int))=false:=by rw[zrf];omega
 have kk7:(q.kind == (7:Int))=false:=by rw[zrf];omega
 have hb0:Below w.heap.size w ((w.alloc (.cells #[zse gw] 172)).alloc (.cells (qv q) 44)):=((zri _ _).alloc (zra _) _).alloc (by simp) _
 have hs1:=zsb w (.cells #[zse gw] 172)
 have bb:=(Blk.new w 172 #[zse gw]).alloc (.cells (qv q) 44)
 have bq:Blk ((w.alloc (.cells #[zse gw] 172)).alloc (.cells (qv q) 44)) (w.heap.size+1) 44 (qv q):=by have:=Blk.new (w.alloc (.cells #[zse gw] 172)) 44 (qv q);rwa [hs1] at this
 have hM0:=hM.below hb0
 have hbw0:=zrc hbw hb0.size
 have hB0:Below base w ((w.alloc (.cells #[zse gw] 172)).alloc (.cells (qv q) 44)):=hb0.mono hbw
 have hK0:=Kp.below hb0
 have hS0:=hb0.size
 clear hM hb0 hs1
 clear hkind hq hD hT F
 go_enter func71,ntmps71
 go_upto_region 1 with fail
 generalize(w.alloc _).alloc _=w0 at *
 have x0:=bq.c0
 go_wp2_with fail
 go_ret
 refine⟨q1,q2,q3,d1,d2,d3,?_⟩
 rw[HD.out]
 exact⟨rfl,hM0,hB0,hK0,hS0⟩
theorem WorkM.setT {w:World} {base gn gw:Nat} {q1 q2 q3:Zoa} {d1 d2 d3:Nat} {s:St} {now:Int} (h:WorkM w base gn gw q1 q2 q3 d1 d2 d3 s now) (m:Int):WorkM (w.setCell ⟨gw,1,none⟩ (.int .i64 m)) base gn gw q1 q2 q3 d1 d2 d3 s m:=by
 have G:=ux4 w gw 1 (.int .i64 m)
 exact⟨h.bw.set_ 1 _,h.bn.far (p:=⟨gw,1,none⟩) (Ne.symm h.ne) _,⟨h.own.j.other G h.bw (by decide),h.own.n.other G h.bw (by decide),h.own.l.other G h.bw (by decide)⟩,h.hn,h.hw⟩
theorem do_tick (q:ReqD) (base gn gw:Nat) (q1 q2 q3:Zoa) (d1 d2 d3:Nat) (s:St) (now:Int) (w:World) (hM:WorkM w base gn gw q1 q2 q3 d1 d2 d3 s now) (hbw:base<=w.heap.size) (F:Fine s) (hT:∀W,Below base w W->Tabs W) (hq:reqE q=0) (hkind:q.kind=7) (hnow:0<=now/\now<=1099511627776) :
  Calls prog 71 #[zse gw,.agg (qv q)] w fun e w'=>vxv w base gn gw (doW ⟨s,now⟩ q) e w':=by
 have hN:0<=q.n/\q.n<=1099511627776:=by
  have:=(vwk hq).2.2
  unfold partE at this
  rw[if_neg (by omega),if_neg (by omega),if_neg (by omega),if_neg (by omega),if_pos hkind] at this
  cases hw:uxg q.n 0 1099511627776
  ·rw[hw] at this;simp at this
  ·exact uq2.1 hw
 have hD:doW ⟨s,now⟩ q=if 1099511627776-now<q.n then(⟨s,now⟩,1) else(⟨{ s with leases:=s.leases.filter fun l => !decide (l.till<=now+q.n) },now+q.n⟩,0):=by unfold doW;simp[hkind]
 have HD:=zrj hD
 have hll:=F.nl
 have hw1:IntKind.i64.wrap ((1099511627776:Int)-now)=1099511627776-now:=IntWalk.i64_in _ (by omega)
 have hw2:IntKind.i64.wrap (now+q.n)=now+q.n:=IntWalk.i64_in _ (by omega)
 have hb0:Below w.heap.size w ((w.alloc (.cells #[zse gw] 172)).alloc (.cells (qv q) 44)):=((zri _ _).alloc (zra _) _).alloc (by simp) _
 have hs1:=zsb w (.cells #[zse gw] 172)
 have bb:=(Blk.new w 172 #[zse gw]).alloc (.cells (qv q) 44)
 have bq:Blk ((w.alloc (.cells #[zse gw] 172)).alloc (.cells (qv q) 44)) (w.heap.size+1) 44 (qv q):=by have:=Blk.new (w.alloc (.cells #[zse gw] 172)) 44 (qv q);rwa [hs1] at this
 have hM0:=hM.below hb0
 have hbw0:=zrc hbw hb0.size
 have hB0:Below base w ((w.alloc (.cells #[zse gw] 172)).alloc (.cells (qv q) 44)):=hb0.mono hbw
 have hK0:=Kp.below hb0
 have hS0:=hb0.size
 clear hM hb0 hs1
 have kk1:=zsc hkind 1
 have kk2:=zsc hkind 2
 have kk3:=zsc hkind 3
 have kk4:=zsc hkind 4
 have kk5:=zsc hkind 5
 have kk6:=zsc hkind 6
 have kk7:=zsd hkind 7
 clear hkind hq hD hT F hN hnow
 go_enter func71,ntmps71
 go_upto_region 1 with fail
 generalize(w.alloc _).alloc _=w0 at *
 have x0:=bq.c0
 go_upto_region 20 with fail
 clear x0
 have v0:=bb.c0
 have v1:=hM0.bw.c1
 have v2:=bq.c13
 by_cases hgt:1099511627776-now<q.n
 ·have hd:=HD.out
  rw[if_pos hgt] at hd
  have HD2:=zrj hd
  have hgt2:decide ((1099511627776:Int)-now<q.n)=true:=decide_eq_true hgt
  clear hd HD
  go_big_quiet (fail)
  go_wp2_with fail
  go_ret
  refine⟨q1,q2,q3,d1,d2,d3,?_⟩
  rw[HD2.out]
  have hbn:Below w0.heap.size w0 (w0.drewN nq):=⟨rfl,rfl,rfl,zra _,fun _ _=>rfl⟩
  exact⟨rfl,hM0.below hbn,hB0.trans (hbn.mono hbw0),hK0.trans (Kp.below hbn),hS0⟩
 ·have hd:=HD.out
  rw[if_neg hgt] at hd
  have HD2:=zrj hd
  have hgt2:decide ((1099511627776:Int)-now<q.n)=false:=decide_eq_false hgt
  clear hd HD
  go_big_quiet (fail)
  go_upto_region 22 with fail
  clear v0 v1 v2
  have hbn:Below w0.heap.size w0 (w0.drewN nq):=⟨rfl,rfl,rfl,zra _,fun _ _=>rfl⟩
  have hM1:=hM0.below hbn
  have bb1:=bb.bl hbn
  have bq1:=bq.bl hbn
  have hB1:=hB0.trans (hbn.mono hbw0)
  have hK1:=hK0.trans (Kp.below hbn)
  have hS1:=zrc hS0 hbn.size
  have hbw1:=zrc hbw0 hbn.size
  clear hM0 bb bq hB0 hK0 hS0 hbw0 hbn
  generalize w0.drewN nq=w1 at *
  have G0:Blk w1.drew w.heap.size 172 #[zse gw]/\Blk w1.drew (w.heap.size+1) 44 (qv q):=⟨bb1.drew,bq1.drew⟩
  have y0:w1.drew.cell? ⟨gw,1,none⟩=some (.int .i64 now):=hM1.bw.cell 1
  have y1:w1.drew.frozen? ⟨gw,1,none⟩=false:=hM1.bw.frozen 1
  refine wp_region_held_drew (S:=fun W=>Blk W w.heap.size 172 #[zse gw]/\Blk W (w.heap.size+1) 44 (qv q)) (by kernel_rfl) G0 (fun hHeld=>?_)
  refine tq 0 ?_
  refine tq 1 ?_
  refine tq 2 ?_
  refine tq 4 ?_
  refine tq 5 ?_
  refine tr 3 rfl (fun K hK=>?_)
  go_simp
  refine hK.out _ _ G0 (fun hHeld=>?_)
  clear hK K
  (try simp only[Act.put,ma,mb,mc,md,me,mf])
  refine tq 6 ?_
  refine tq 7 ?_
  refine tq 8 ?_
  have n1:=bb1.ne_ hM1.bw (by decide)
  have n3:=bq1.ne_ hM1.bw (by decide)
  have G2:Blk (w1.drew.setCell ⟨gw,1,none⟩ (.int .i64 (now+q.n))) w.heap.size 172 #[zse gw]/\Blk (w1.drew.setCell ⟨gw,1,none⟩ (.int .i64 (now+q.n))) (w.heap.size+1) 44 (qv q):=⟨G0.1.far (p:=⟨gw,1,none⟩) n1 _,G0.2.far (p:=⟨gw,1,none⟩) n3 _⟩
  refine tr 9 rfl (fun K hK=>?_)
  go_simp
  refine hK.out _ _ G2 (fun hHeld=>?_)
  clear hK K
  (try simp only[Act.put,ma,mb,mc,md,me,mf])
  refine wpAnyH_done (by kernel_rfl) ?_ _
  have hM2:WorkM ((w1.setCell ⟨gw,1,none⟩ (.int .i64 (now+q.n))).drew) base gn gw q1 q2 q3 d1 d2 d3 s (now+q.n):=(hM1.below ((zri _ w1).drew)).setT (now+q.n)
  have G3:Blk ((w1.setCell ⟨gw,1,none⟩ (.int .i64 (now+q.n))).drew) w.heap.size 172 #[zse gw]/\Blk ((w1.setCell ⟨gw,1,none⟩ (.int .i64 (now+q.n))).drew) (w.heap.size+1) 44 (qv q):=G2
  have hK2:Kp w ((w1.setCell ⟨gw,1,none⟩ (.int .i64 (now+q.n))).drew):=hK1.trans ((Kp.below ((zri _ w1).drew)).trans (Kp.cell hM1.bw.drew (by simp) 1 (.int .i64 (now+q.n))))
  have hB2:Below base w ((w1.setCell ⟨gw,1,none⟩ (.int .i64 (now+q.n))).drew):=(hB1.drew).setCell (p:=⟨gw,1,none⟩) hM1.hw _
  have hS2:w.heap.size<=((w1.setCell ⟨gw,1,none⟩ (.int .i64 (now+q.n))).drew).heap.size:=by show w.heap.size<=(w1.setCell ⟨gw,1,none⟩ (.int .i64 (now+q.n))).heap.size;rw[World.size_setCell];exact hS1
  generalize(w1.setCell _ _).drew=w2 at *
  have hbw2:base<=w2.heap.size:=zrc hbw hS2
  obtain⟨bb2,bq2⟩:=G3
  clear G2 hM1 G0 n1 n3 y0 y1 hHeld bb1 bq1
  have hfn:FnOk prog w2 117 #[zse w.heap.size] rowL (fun l=>decide (l.till<=now+q.n)) s.leases:=⟨fun args W=>by kernel_rfl,fun x _ W hW=>xkm w.heap.size gw x (now+q.n) W ((bb2.bl hW).cell 0) (bb2.bl hW).lt ((hM2.bw.below hW hM2.bw.lt).cell 1) (hM2.bw.below hW hM2.bw.lt).lt⟩
  have hfg:∀g cur,base<=g->Blk w2 g 42 cur->FnOkG prog w2 g 117 #[zse w.heap.size] rowL (fun l=>decide (l.till<=now+q.n)) s.leases:=fun g cur _ hb=>⟨fun args W=>by kernel_rfl,fun x _ W hW=>by
   have b3:=GrB.blk hW bb2 (bb2.ne_ hb (by decide))
   have b4:=GrB.blk hW hM2.bw (hM2.bw.ne_ hb (by decide))
   exact xkm w.heap.size gw x (now+q.n) W (b3.cell 0) b3.lt (b4.cell 1) b4.lt⟩
  have HW:=zrj (vzm _ _ _ base gn gw _ _ _ _ _ _ _ (now+q.n) w2 hM2 hbw2 (by show s.leases.length<=1000;omega) hfn hfg)
  have z0:=bb2.c0
  clear hM2 hfn hfg bb2 bq2
  go_wp2_with fail
  refine HW.out.mono ?_
  rintro e w3 ⟨rfl,q',d',hM3,hB3,hK3,hS3⟩
  go_wp2_with fail
  go_ret
  refine⟨q1,q2,q',d1,d2,d',?_⟩
  rw[HD2.out]
  exact⟨rfl,hM3,hB2.trans hB3,hK2.trans hK3,zrc hS2 hS3⟩
end Go.Proofs.YtknmnhleicakhaaGreatDoor
