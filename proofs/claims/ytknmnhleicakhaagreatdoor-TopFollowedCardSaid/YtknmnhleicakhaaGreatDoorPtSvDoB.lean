/- Lemmas.
-/
import Derived.Test.YtknmnhleicakhaaGreatDoorPtSvDoA
set_option linter.all false
set_option maxHeartbeats 16000000
set_option maxRecDepth 100000
namespace Go.Proofs.YtknmnhleicakhaaGreatDoor
open Go.Proofs.Tryz
open Go.RowKit
theorem xyf (q:ReqD) (v:Srv) (g:Nat) (w:World) (hM:SvI w g v) (hv:SrvOk v) (HS:ReqSz q) (hT:Tabs w) (hq:reqE q=0) (s':St) (now':Int) (hd:doW v q=(⟨s',now'⟩,0)) (hs:sameT v.st s'=false) (hr:1099511627776<v.st.rev+1) :
  Calls prog 46 #[zse g,.agg (qv q)] w fun e w'=>vq6 w g (⟨2,none,v⟩) e w':=by
 have F':Fine s':=(doN_s hv hq hd).1
 have HREV:=zrj (show s'.rev=v.st.rev from(doN_s hv hq hd).2)
 obtain⟨q1,q2,q3,d1,d2,d3,hM⟩:=hM
 have F:=hv.1
 have hnow:=hv.2
 have hzr:=ukd
 have hzd:=ux6
 have hzs:=uq3
 have hzw:=ukr
 have hb0:Below w.heap.size w (((w.alloc (.cells (qv q) 44)).alloc (.cells #[.int .i64 0,.int .i64 0] 115)).alloc (.cells zdv 118)):=(((zri _ _).alloc (zra _) _).alloc (by simp) _).alloc (by simp;omega) _
 have bq0:=((Blk.new w 44 (qv q)).alloc (.cells #[.int .i64 0,.int .i64 0] 115)).alloc (.cells zdv 118)
 have br0:Blk (((w.alloc (.cells (qv q) 44)).alloc (.cells #[.int .i64 0,.int .i64 0] 115)).alloc (.cells zdv 118)) (w.heap.size+1) 115 #[.int .i64 0,.int .i64 0]:=by
  have:=(Blk.new (w.alloc (.cells (qv q) 44)) 115 #[.int .i64 0,.int .i64 0]).alloc (.cells zdv 118)
  rwa [show(w.alloc (.cells (qv q) 44)).heap.size=w.heap.size+1 by simp] at this
 have bd0:Blk (((w.alloc (.cells (qv q) 44)).alloc (.cells #[.int .i64 0,.int .i64 0] 115)).alloc (.cells zdv 118)) (w.heap.size+2) 118 zdv:=by
  have:=Blk.new ((w.alloc (.cells (qv q) 44)).alloc (.cells #[.int .i64 0,.int .i64 0] 115)) 118 zdv
  rwa [show((w.alloc (.cells (qv q) 44)).alloc (.cells #[.int .i64 0,.int .i64 0] 115)).heap.size=w.heap.size+2 by simp] at this
 have HCk:=zrj (fun(W:World) (hW:Below w.heap.size w W)=>uzc q W HS (hT.below hW))
 have HO:=zrj (fun(W:World) (hW:Below w.heap.size w W)=>uwn v.st q1 q2 q3 d1 d2 d3 W (hM.below hW).m (by have:=F.nj;omega) (by have:=F.nn;omega) (by have:=F.nl;omega))
 have HM:=zrj (fun(W:World) (hW:Below w.heap.size w W)=>hM.below hW)
 have HT:=zrj (fun(W:World) (hW:Below w.heap.size w W)=>hT.below hW)
 rw[hq] at HCk
 have z1:(((0:Nat):Int) == 0)=true:=rfl
 have hlg:=hM.b.lt
 clear hT HS hM hv
 go_enter func46,ntmps46
 go_wp2_with(first | (refine uqw (by rfl) _ _ rfl (w.heap.size) rfl _ _ bq0 _ underlying44 rfl uqd ?_))
 generalize((w.alloc _).alloc _).alloc _=w0 at *
 refine(HCk.out w0 hb0).mono ?_
 rintro e w1 ⟨rfl,hb1⟩
 have hB1:=bthen hb0 hb1
 have bq1:=bq0.bl hb1
 have br1:=br0.bl hb1
 have bd1:=bd0.bl hb1
 have hM1:=HM.out w1 hB1
 have hat1:=hM1.at
 clear hb0 hb1 bq0 br0 bd0 HCk
 go_wp2_with(first | (refine uqe rfl _ _ rfl ⟨g,0,none⟩ rfl [Value.int .i64 v.st.rev,Value.slice q1 v.st.jobs.length d1,Value.slice q2 v.st.nodes.length d2,Value.slice q3 v.st.leases.length d3] _ hat1 underlying26 rfl uqg ?_))
 refine(HO.out w1 hB1).mono ?_
 rintro e w2 ⟨r1,r2,r3,e1,e2,e3,rfl,hO,hb2⟩
 have hB2:=bthen hB1 hb2
 have hO:=hO.less hB1.size
 have bq2:=bq1.bl hb2
 have br2:=br1.bl hb2
 have bd2:=bd1.bl hb2
 have hb3:=zsa w2 (.cells #[.int .i64 v.st.rev,.slice r1 v.st.jobs.length e1,.slice r2 v.st.nodes.length e2,.slice r3 v.st.leases.length e3] 26)
 have hs3:=zsb w2 (.cells #[.int .i64 v.st.rev,.slice r1 v.st.jobs.length e1,.slice r2 v.st.nodes.length e2,.slice r3 v.st.leases.length e3] 26)
 have hb4:Below w2.heap.size w2 ((w2.alloc (.cells #[.int .i64 v.st.rev,.slice r1 v.st.jobs.length e1,.slice r2 v.st.nodes.length e2,.slice r3 v.st.leases.length e3] 26)).alloc (.cells #[zse w2.heap.size,.int .i64 v.now] 174)):=hb3.alloc (by simp) _
 have hw4:WorkM ((w2.alloc (.cells #[.int .i64 v.st.rev,.slice r1 v.st.jobs.length e1,.slice r2 v.st.nodes.length e2,.slice r3 v.st.leases.length e3] 26)).alloc (.cells #[zse w2.heap.size,.int .i64 v.now] 174)) w.heap.size w2.heap.size (w2.heap.size+1) r1 r2 r3 e1 e2 e3 v.st v.now:=⟨by have:=Blk.new (w2.alloc (.cells #[.int .i64 v.st.rev,.slice r1 v.st.jobs.length e1,.slice r2 v.st.nodes.length e2,.slice r3 v.st.leases.length e3] 26)) 174 #[zse w2.heap.size,.int .i64 v.now];rwa [hs3] at this,(Blk.new w2 26 #[.int .i64 v.st.rev,.slice r1 v.st.jobs.length e1,.slice r2 v.st.nodes.length e2,.slice r3 v.st.leases.length e3]).alloc _,hO.below hb4,hB2.size,Nat.le_succ_of_le hB2.size⟩
 have hB4:=bthen hB2 hb4
 have bq4:=bq2.bl hb4
 have br4:=br2.bl hb4
 have bd4:=bd2.bl hb4
 have c4:(w2.alloc (.cells #[.int .i64 v.st.rev,.slice r1 v.st.jobs.length e1,.slice r2 v.st.nodes.length e2,.slice r3 v.st.leases.length e3] 26)).cell? ⟨g,4,none⟩=some (.int .i64 v.now):=(HM.out _ (bthen hB2 hb3)).b.cell 4
 clear hO hB1 hb2 hB2 hb4 hb3 bq1 br1 bd1 bq2 br2 bd2 hM1 hat1 HO
 go_upto_region 4 with(first | (refine uqf rfl _ _ _ rfl rfl 26 _ #[.int .i64 v.st.rev,.slice r1 v.st.jobs.length e1,.slice r2 v.st.nodes.length e2,.slice r3 v.st.leases.length e3] rfl uqg rfl (ux8 _ _ _ _ _ _ _ _ _ _) ?_))
 clear hs3 c4
 generalize w2.heap.size=gn at *
 generalize(w2.alloc _).alloc _=w4 at *
 have HDo:=zrj (wyp q w.heap.size gn (gn+1) r1 r2 r3 e1 e2 e3 v.st v.now w4 hw4 hB4.size F (fun W hW=>HT.out W (hB4.trans hW)) hq hnow)
 rw[hd] at HDo
 have z1:(((0:Nat):Int) == 0)=true:=rfl
 clear hw4
 go_wp2_with(first | (refine uqw (by rfl) _ _ rfl (w.heap.size) rfl _ _ bq4 _ underlying44 rfl uqd ?_))
 refine HDo.out.mono ?_
 rintro e w5 ⟨s1,s2,s3,f1,f2,f3,rfl,hw5,hBd,hK,hS⟩
 have hB5:=hB4.trans hBd
 have br5:=hK _ _ _ br4 (by decide) (by decide) (by decide) (by decide) (by decide)
 have bd5:=hK _ _ _ bd4 (by decide) (by decide) (by decide) (by decide) (by decide)
 have hM5:=HM.out _ hB5
 clear HDo hBd hK hS hB4 bq4 br4 bd4 hq
 go_upto_region 6 with fail
 have HSm:=zrj (fun(W:World) (hW:Below w5.heap.size w5 W)=>vka v.st s' q1 q2 q3 s1 s2 s3 d1 d2 d3 f1 f2 f3 W ((hM5.below hW).m) ((hw5.own.below hW).m) F.sz F'.sz)
 rw[hs] at HSm
 have G0:Blk w5.drew g 94 (zsh v q1 q2 q3 d1 d2 d3)/\Blk w5.drew gn 26 #[.int .i64 s'.rev,.slice s1 s'.jobs.length f1,.slice s2 s'.nodes.length f2,.slice s3 s'.leases.length f3]:=⟨hM5.b.drew,hw5.bn.drew⟩
 refine wp_region_held_drew (S:=fun W=>Blk W g 94 (zsh v q1 q2 q3 d1 d2 d3)/\Blk W gn 26 #[.int .i64 s'.rev,.slice s1 s'.jobs.length f1,.slice s2 s'.nodes.length f2,.slice s3 s'.leases.length f3]) (by kernel_rfl) G0 (fun hHeld=>?_)
 refine tq 0 ?_
 refine tq 1 ?_
 refine tq 2 ?_
 refine tq 3 ?_
 refine tq 4 ?_
 refine tq 5 ?_
 refine tq 6 ?_
 refine tq 7 ?_
 refine tr 8 rfl (fun K hK=>?_)
 go_simp
 refine(HSm.out w5.drew (zri _ w5).drew).mono ?_
 rintro e w6 ⟨rfl,hb6⟩
 have hb56:Below w5.heap.size w5 w6:=(zri _ w5).drew.trans hb6
 have G1:Blk w6 g 94 (zsh v q1 q2 q3 d1 d2 d3)/\Blk w6 gn 26 #[.int .i64 s'.rev,.slice s1 s'.jobs.length f1,.slice s2 s'.nodes.length f2,.slice s3 s'.leases.length f3]:=⟨G0.1.below hb6 G0.1.lt,G0.2.below hb6 G0.2.lt⟩
 clear hb6
 refine hK.out _ _ G1 (fun hHeld=>?_)
 clear hK K
 (try simp only[Act.put,ma,mb,mc,md,me,mf])
 refine tq 9 ?_
 refine tq 10 ?_
 refine tq 11 ?_
 refine wpAnyH_done (by kernel_rfl) ?_ _
 have hB6:=bthen hB5 hb56
 have br6:=br5.bl hb56
 have bd6:=bd5.bl hb56
 have hw6:=hw5.below hb56
 have hM6:=hM5.below hb56
 clear G0 hHeld G1 HSm hb56 br5 bd5 hw5 hM5 hB5
 have w1:IntKind.i64.wrap (s'.rev+1)=s'.rev+1:=IntWalk.i64_in _ (by have:=F'.rev;omega)
 have hgt:decide ((1099511627776:Int)<s'.rev+1)=true:=by rw[HREV.out];exact decide_eq_true hr
 have x1:=hw6.bn.c0
 have x2:w6.frozen? ⟨gn,0,none⟩=false:=hw6.bn.frozen 0
 go_upto_region 9 with fail
 clear x1 x2
 have hB7:Below w.heap.size w (w6.setCell ⟨gn,0,none⟩ (.int .i64 (s'.rev+1))):=hB6.setCell (p:=⟨gn,0,none⟩) hw6.hn _
 have gc:=ux4 w6 gn 0 (.int .i64 (s'.rev+1))
 have bn7:Blk (w6.setCell ⟨gn,0,none⟩ (.int .i64 (s'.rev+1))) gn 26 #[.int .i64 (s'.rev+1),.slice s1 s'.jobs.length f1,.slice s2 s'.nodes.length f2,.slice s3 s'.leases.length f3]:=hw6.bn.set_ 0 _
 have bw7:=GrB.blk gc hw6.bw hw6.ne
 have ow7:=hw6.own.other gc hw6.bn (by decide) (by decide) (by decide)
 have br7:=GrB.blk gc br6 (br6.ne_ hw6.bn (by decide))
 have bd7:=GrB.blk gc bd6 (bd6.ne_ hw6.bn (by decide))
 clear gc hw6 hM6 br6 bd6 hB6
 generalize w6.setCell _ _=w7 at *
 have y1:=bn7.c0
 go_upto_region 17 with fail
 have hB8:=hB7.alloc hB7.size (.cells zdv 118)
 have br8:=br7.alloc (.cells zdv 118)
 have bd8:=bd7.alloc (.cells zdv 118)
 have bx8:=Blk.new w7 118 zdv
 have hkd:=bd7.lt
 have M8:=HM.out _ hB8
 clear bn7 bw7 ow7 br7 bd7 y1
 generalize hkx:w7.heap.size=kx at *
 generalize w7.alloc _=w8 at *
 have G0:Blk w8.drew g 94 (zsh v q1 q2 q3 d1 d2 d3)/\Blk w8.drew kx 118 zdv:=⟨M8.b.drew,bx8.drew⟩
 have hr1:=br8.drew
 have hd1:=bd8.drew
 refine wp_region_held_drew (S:=fun W=>Blk W g 94 (zsh v q1 q2 q3 d1 d2 d3)/\Blk W kx 118 zdv) (by kernel_rfl) G0 (fun hHeld=>?_)
 refine tq 0 ?_
 refine tq 1 ?_
 refine tq 2 ?_
 refine tq 3 ?_
 refine tq 4 ?_
 refine tq 5 ?_
 refine tq 6 ?_
 refine tq 7 ?_
 refine tq 8 ?_
 have G1:Blk (w8.drew.setRow (w.heap.size+1) #[.int .i64 ((2:Nat):Int),.int .i64 v.st.rev]) g 94 (zsh v q1 q2 q3 d1 d2 d3)/\Blk (w8.drew.setRow (w.heap.size+1) #[.int .i64 ((2:Nat):Int),.int .i64 v.st.rev]) kx 118 zdv:=(⟨G0.1.far_row (G0.1.ne_ hr1 (by decide)) #[.int .i64 ((2:Nat):Int),.int .i64 v.st.rev],G0.2.far_row (G0.2.ne_ hr1 (by decide)) #[.int .i64 ((2:Nat):Int),.int .i64 v.st.rev]⟩)
 have hd2:=hd1.far_row (hd1.ne_ hr1 (by decide)) #[.int .i64 ((2:Nat):Int),.int .i64 v.st.rev]
 refine tr 9 rfl (fun K hK=>?_)
 refine uxi rfl _ _ _ rfl (w.heap.size+1) rfl _ _ #[.int .i64 ((2:Nat):Int),.int .i64 v.st.rev] hr1 rfl ujy rfl (vjx _ _) ?_
 refine hK.out _ _ G1 (fun hHeld=>?_)
 clear hK K
 (try simp only[Act.put,ma,mb,mc,md,me,mf])
 have G2:Blk ((w8.drew.setRow (w.heap.size+1) #[.int .i64 ((2:Nat):Int),.int .i64 v.st.rev]).setRow (w.heap.size+2) zdv) g 94 (zsh v q1 q2 q3 d1 d2 d3)/\Blk ((w8.drew.setRow (w.heap.size+1) #[.int .i64 ((2:Nat):Int),.int .i64 v.st.rev]).setRow (w.heap.size+2) zdv) kx 118 zdv:=⟨G1.1.far_row (G1.1.ne_ hd2 (by decide)) zdv,G1.2.far_row (by omega) zdv⟩
 refine tr 10 rfl (fun K hK=>?_)
 refine uxi rfl _ _ _ rfl (w.heap.size+2) rfl _ _ zdv hd2 rfl uqv rfl (ukj _ _ _ _ _ _ _ _ _ _ _ _ _ _ _ _ _ _ _ _) ?_
 refine hK.out _ _ G2 (fun hHeld=>?_)
 clear hK K
 (try simp only[Act.put,ma,mb,mc,md,me,mf])
 refine tq 11 ?_
 refine wpAnyH_done (by kernel_rfl) ?_ _
 have hr3:=(hr1.setRow #[.int .i64 ((2:Nat):Int),.int .i64 v.st.rev]).far_row ((hr1.setRow #[.int .i64 ((2:Nat):Int),.int .i64 v.st.rev]).ne_ hd2 (by decide)) zdv
 have hd3:=hd2.setRow zdv
 go_wp2_with fail
 refine bodyPost_ret (uvh rfl _ rfl hr3 underlying115 rfl ujy rfl hd3 underlying118 rfl uqv) rfl ?_
 obtain⟨m1,m2⟩:=vz5 (c1:=#[.int .i64 ((2:Nat):Int),.int .i64 v.st.rev]) (c2:=zdv) ⟨q1,q2,q3,d1,d2,d3,M8⟩ (uzo (some g) hB8) (by omega) (by omega) br8 bd8 (by decide) (by decide) (by omega)
 refine⟨none,none,none,none,none,none,0,0,0,0,0,0,?_,m1,m2,DelOwn.nil0 _ _⟩
 rfl
theorem xyh (q:ReqD) (v:Srv) (g:Nat) (w:World) (hM:SvI w g v) (hv:SrvOk v) (HS:ReqSz q) (hT:Tabs w) (hq:reqE q=0) (s':St) (now':Int) (hd:doW v q=(⟨s',now'⟩,0)) (hs:sameT v.st s'=false) (hr:v.st.rev+1<=1099511627776) :
  Calls prog 46 #[zse g,.agg (qv q)] w fun e w'=>vq6 w g (⟨0,some (zsg v.st s'),⟨{ s' with rev:=v.st.rev+1 },now'⟩⟩) e w':=by
 have F':Fine s':=(doN_s hv hq hd).1
 have HREV:=zrj (show s'.rev=v.st.rev from(doN_s hv hq hd).2)
 obtain⟨q1,q2,q3,d1,d2,d3,hM⟩:=hM
 have F:=hv.1
 have hnow:=hv.2
 have hzr:=ukd
 have hzd:=ux6
 have hzs:=uq3
 have hzw:=ukr
 have hb0:Below w.heap.size w (((w.alloc (.cells (qv q) 44)).alloc (.cells #[.int .i64 0,.int .i64 0] 115)).alloc (.cells zdv 118)):=(((zri _ _).alloc (zra _) _).alloc (by simp) _).alloc (by simp;omega) _
 have bq0:=((Blk.new w 44 (qv q)).alloc (.cells #[.int .i64 0,.int .i64 0] 115)).alloc (.cells zdv 118)
 have br0:Blk (((w.alloc (.cells (qv q) 44)).alloc (.cells #[.int .i64 0,.int .i64 0] 115)).alloc (.cells zdv 118)) (w.heap.size+1) 115 #[.int .i64 0,.int .i64 0]:=by
  have:=(Blk.new (w.alloc (.cells (qv q) 44)) 115 #[.int .i64 0,.int .i64 0]).alloc (.cells zdv 118)
  rwa [show(w.alloc (.cells (qv q) 44)).heap.size=w.heap.size+1 by simp] at this
 have bd0:Blk (((w.alloc (.cells (qv q) 44)).alloc (.cells #[.int .i64 0,.int .i64 0] 115)).alloc (.cells zdv 118)) (w.heap.size+2) 118 zdv:=by
  have:=Blk.new ((w.alloc (.cells (qv q) 44)).alloc (.cells #[.int .i64 0,.int .i64 0] 115)) 118 zdv
  rwa [show((w.alloc (.cells (qv q) 44)).alloc (.cells #[.int .i64 0,.int .i64 0] 115)).heap.size=w.heap.size+2 by simp] at this
 have HCk:=zrj (fun(W:World) (hW:Below w.heap.size w W)=>uzc q W HS (hT.below hW))
 have HO:=zrj (fun(W:World) (hW:Below w.heap.size w W)=>uwn v.st q1 q2 q3 d1 d2 d3 W (hM.below hW).m (by have:=F.nj;omega) (by have:=F.nn;omega) (by have:=F.nl;omega))
 have HM:=zrj (fun(W:World) (hW:Below w.heap.size w W)=>hM.below hW)
 have HT:=zrj (fun(W:World) (hW:Below w.heap.size w W)=>hT.below hW)
 rw[hq] at HCk
 have z1:(((0:Nat):Int) == 0)=true:=rfl
 have hlg:=hM.b.lt
 clear hT HS hM hv
 go_enter func46,ntmps46
 go_wp2_with(first | (refine uqw (by rfl) _ _ rfl (w.heap.size) rfl _ _ bq0 _ underlying44 rfl uqd ?_))
 generalize((w.alloc _).alloc _).alloc _=w0 at *
 refine(HCk.out w0 hb0).mono ?_
 rintro e w1 ⟨rfl,hb1⟩
 have hB1:=bthen hb0 hb1
 have bq1:=bq0.bl hb1
 have br1:=br0.bl hb1
 have bd1:=bd0.bl hb1
 have hM1:=HM.out w1 hB1
 have hat1:=hM1.at
 clear hb0 hb1 bq0 br0 bd0 HCk
 go_wp2_with(first | (refine uqe rfl _ _ rfl ⟨g,0,none⟩ rfl [Value.int .i64 v.st.rev,Value.slice q1 v.st.jobs.length d1,Value.slice q2 v.st.nodes.length d2,Value.slice q3 v.st.leases.length d3] _ hat1 underlying26 rfl uqg ?_))
 refine(HO.out w1 hB1).mono ?_
 rintro e w2 ⟨r1,r2,r3,e1,e2,e3,rfl,hO,hb2⟩
 have hB2:=bthen hB1 hb2
 have hO:=hO.less hB1.size
 have bq2:=bq1.bl hb2
 have br2:=br1.bl hb2
 have bd2:=bd1.bl hb2
 have hb3:=zsa w2 (.cells #[.int .i64 v.st.rev,.slice r1 v.st.jobs.length e1,.slice r2 v.st.nodes.length e2,.slice r3 v.st.leases.length e3] 26)
 have hs3:=zsb w2 (.cells #[.int .i64 v.st.rev,.slice r1 v.st.jobs.length e1,.slice r2 v.st.nodes.length e2,.slice r3 v.st.leases.length e3] 26)
 have hb4:Below w2.heap.size w2 ((w2.alloc (.cells #[.int .i64 v.st.rev,.slice r1 v.st.jobs.length e1,.slice r2 v.st.nodes.length e2,.slice r3 v.st.leases.length e3] 26)).alloc (.cells #[zse w2.heap.size,.int .i64 v.now] 174)):=hb3.alloc (by simp) _
 have hw4:WorkM ((w2.alloc (.cells #[.int .i64 v.st.rev,.slice r1 v.st.jobs.length e1,.slice r2 v.st.nodes.length e2,.slice r3 v.st.leases.length e3] 26)).alloc (.cells #[zse w2.heap.size,.int .i64 v.now] 174)) w.heap.size w2.heap.size (w2.heap.size+1) r1 r2 r3 e1 e2 e3 v.st v.now:=⟨by have:=Blk.new (w2.alloc (.cells #[.int .i64 v.st.rev,.slice r1 v.st.jobs.length e1,.slice r2 v.st.nodes.length e2,.slice r3 v.st.leases.length e3] 26)) 174 #[zse w2.heap.size,.int .i64 v.now];rwa [hs3] at this,(Blk.new w2 26 #[.int .i64 v.st.rev,.slice r1 v.st.jobs.length e1,.slice r2 v.st.nodes.length e2,.slice r3 v.st.leases.length e3]).alloc _,hO.below hb4,hB2.size,Nat.le_succ_of_le hB2.size⟩
 have hB4:=bthen hB2 hb4
 have bq4:=bq2.bl hb4
 have br4:=br2.bl hb4
 have bd4:=bd2.bl hb4
 have c4:(w2.alloc (.cells #[.int .i64 v.st.rev,.slice r1 v.st.jobs.length e1,.slice r2 v.st.nodes.length e2,.slice r3 v.st.leases.length e3] 26)).cell? ⟨g,4,none⟩=some (.int .i64 v.now):=(HM.out _ (bthen hB2 hb3)).b.cell 4
 clear hO hB1 hb2 hB2 hb4 hb3 bq1 br1 bd1 bq2 br2 bd2 hM1 hat1 HO
 go_upto_region 4 with(first | (refine uqf rfl _ _ _ rfl rfl 26 _ #[.int .i64 v.st.rev,.slice r1 v.st.jobs.length e1,.slice r2 v.st.nodes.length e2,.slice r3 v.st.leases.length e3] rfl uqg rfl (ux8 _ _ _ _ _ _ _ _ _ _) ?_))
 clear hs3 c4
 generalize w2.heap.size=gn at *
 generalize(w2.alloc _).alloc _=w4 at *
 have HDo:=zrj (wyp q w.heap.size gn (gn+1) r1 r2 r3 e1 e2 e3 v.st v.now w4 hw4 hB4.size F (fun W hW=>HT.out W (hB4.trans hW)) hq hnow)
 rw[hd] at HDo
 have z1:(((0:Nat):Int) == 0)=true:=rfl
 clear hw4
 go_wp2_with(first | (refine uqw (by rfl) _ _ rfl (w.heap.size) rfl _ _ bq4 _ underlying44 rfl uqd ?_))
 refine HDo.out.mono ?_
 rintro e w5 ⟨s1,s2,s3,f1,f2,f3,rfl,hw5,hBd,hK,hS⟩
 have hB5:=hB4.trans hBd
 have br5:=hK _ _ _ br4 (by decide) (by decide) (by decide) (by decide) (by decide)
 have bd5:=hK _ _ _ bd4 (by decide) (by decide) (by decide) (by decide) (by decide)
 have hM5:=HM.out _ hB5
 clear HDo hBd hK hS hB4 bq4 br4 bd4 hq
 go_upto_region 6 with fail
 have HSm:=zrj (fun(W:World) (hW:Below w5.heap.size w5 W)=>vka v.st s' q1 q2 q3 s1 s2 s3 d1 d2 d3 f1 f2 f3 W ((hM5.below hW).m) ((hw5.own.below hW).m) F.sz F'.sz)
 rw[hs] at HSm
 have G0:Blk w5.drew g 94 (zsh v q1 q2 q3 d1 d2 d3)/\Blk w5.drew gn 26 #[.int .i64 s'.rev,.slice s1 s'.jobs.length f1,.slice s2 s'.nodes.length f2,.slice s3 s'.leases.length f3]:=⟨hM5.b.drew,hw5.bn.drew⟩
 refine wp_region_held_drew (S:=fun W=>Blk W g 94 (zsh v q1 q2 q3 d1 d2 d3)/\Blk W gn 26 #[.int .i64 s'.rev,.slice s1 s'.jobs.length f1,.slice s2 s'.nodes.length f2,.slice s3 s'.leases.length f3]) (by kernel_rfl) G0 (fun hHeld=>?_)
 refine tq 0 ?_
 refine tq 1 ?_
 refine tq 2 ?_
 refine tq 3 ?_
 refine tq 4 ?_
 refine tq 5 ?_
 refine tq 6 ?_
 refine tq 7 ?_
 refine tr 8 rfl (fun K hK=>?_)
 go_simp
 refine(HSm.out w5.drew (zri _ w5).drew).mono ?_
 rintro e w6 ⟨rfl,hb6⟩
 have hb56:Below w5.heap.size w5 w6:=(zri _ w5).drew.trans hb6
 have G1:Blk w6 g 94 (zsh v q1 q2 q3 d1 d2 d3)/\Blk w6 gn 26 #[.int .i64 s'.rev,.slice s1 s'.jobs.length f1,.slice s2 s'.nodes.length f2,.slice s3 s'.leases.length f3]:=⟨G0.1.below hb6 G0.1.lt,G0.2.below hb6 G0.2.lt⟩
 clear hb6
 refine hK.out _ _ G1 (fun hHeld=>?_)
 clear hK K
 (try simp only[Act.put,ma,mb,mc,md,me,mf])
 refine tq 9 ?_
 refine tq 10 ?_
 refine tq 11 ?_
 refine wpAnyH_done (by kernel_rfl) ?_ _
 have hB6:=bthen hB5 hb56
 have br6:=br5.bl hb56
 have bd6:=bd5.bl hb56
 have hw6:=hw5.below hb56
 have hM6:=hM5.below hb56
 clear G0 hHeld G1 HSm hb56 br5 bd5 hw5 hM5 hB5
 have w1:IntKind.i64.wrap (s'.rev+1)=s'.rev+1:=IntWalk.i64_in _ (by have:=F'.rev;omega)
 have hgt:decide ((1099511627776:Int)<s'.rev+1)=false:=by rw[HREV.out];exact decide_eq_false (by omega)
 have x1:=hw6.bn.c0
 have x2:w6.frozen? ⟨gn,0,none⟩=false:=hw6.bn.frozen 0
 go_upto_region 9 with fail
 clear x1 x2
 have hB7:Below w.heap.size w (w6.setCell ⟨gn,0,none⟩ (.int .i64 (s'.rev+1))):=hB6.setCell (p:=⟨gn,0,none⟩) hw6.hn _
 have gc:=ux4 w6 gn 0 (.int .i64 (s'.rev+1))
 have bn7:Blk (w6.setCell ⟨gn,0,none⟩ (.int .i64 (s'.rev+1))) gn 26 #[.int .i64 (s'.rev+1),.slice s1 s'.jobs.length f1,.slice s2 s'.nodes.length f2,.slice s3 s'.leases.length f3]:=hw6.bn.set_ 0 _
 have bw7:=GrB.blk gc hw6.bw hw6.ne
 have ow7:=hw6.own.other gc hw6.bn (by decide) (by decide) (by decide)
 have br7:=GrB.blk gc br6 (br6.ne_ hw6.bn (by decide))
 have bd7:=GrB.blk gc bd6 (bd6.ne_ hw6.bn (by decide))
 clear gc hw6 hM6 br6 bd6 hB6
 generalize w6.setCell _ _=w7 at *
 have y1:=bn7.c0
 go_upto_region 13 with fail
 have hB8:=hB7.alloc hB7.size (.cells zdv 118)
 have hba:=zsa w7 (.cells zdv 118)
 have br8:=br7.alloc (.cells zdv 118)
 have bd8:=bd7.alloc (.cells zdv 118)
 have bx8:=Blk.new w7 118 zdv
 have bn8:=bn7.alloc (.cells zdv 118)
 have bw8:=bw7.alloc (.cells zdv 118)
 have ow8:=ow7.below hba
 have hkd:=bd7.lt
 have M8:=HM.out _ hB8
 clear bn7 bw7 ow7 br7 bd7 y1 hba hB7
 generalize hkx:w7.heap.size=kx at *
 generalize w7.alloc _=w8 at *
 have HBt:=zrj (fun(W:World) (hW:Below w8.heap.size w8 W)=>wyg v.st { s' with rev:=v.st.rev+1 } q1 q2 q3 s1 s2 s3 d1 d2 d3 f1 f2 f3 W ((M8.below hW).m) (show StM W W.heap.size s1 s2 s3 { s' with rev:=v.st.rev+1 } from⟨((ow8.below hW).m).j,((ow8.below hW).m).n,((ow8.below hW).m).l⟩) ⟨zrc F.nj (by decide),zrc F'.nj (by decide)⟩ ⟨zrc F.nn (by decide),zrc F'.nn (by decide)⟩ ⟨zrc F.nl (by decide),zrc F'.nl (by decide)⟩)
 have hre:s'.rev+1=v.st.rev+1:=by rw[HREV.out]
 rw[hre] at bn8
 clear F F' HREV hre hgt w1
 have G0:Blk w8.drew g 94 (zsh v q1 q2 q3 d1 d2 d3)/\Blk w8.drew gn 26 #[.int .i64 (v.st.rev+1),.slice s1 s'.jobs.length f1,.slice s2 s'.nodes.length f2,.slice s3 s'.leases.length f3]:=⟨M8.b.drew,bn8.drew⟩
 have bxd:=bx8.drew
 refine wp_region_held_drew (S:=fun W=>Blk W g 94 (zsh v q1 q2 q3 d1 d2 d3)/\Blk W gn 26 #[.int .i64 (v.st.rev+1),.slice s1 s'.jobs.length f1,.slice s2 s'.nodes.length f2,.slice s3 s'.leases.length f3]) (by kernel_rfl) G0 (fun hHeld=>?_)
 refine tq 0 ?_
 refine tq 1 ?_
 refine tq 2 ?_
 refine tq 3 ?_
 refine tq 4 ?_
 refine tr 5 rfl (fun K hK=>?_)
 go_simp
 refine(HBt.out w8.drew (zri _ w8).drew).mono ?_
 rintro e w9 ⟨x1,x2,x3,x4,x5,x6,y1,y2,y3,y4,y5,y6,rfl,hDo,hb9⟩
 have hb89:Below w8.heap.size w8 w9:=(zri _ w8).drew.trans hb9
 have bx9:=bxd.bl hb9
 have G1:Blk w9 g 94 (zsh v q1 q2 q3 d1 d2 d3)/\Blk w9 gn 26 #[.int .i64 (v.st.rev+1),.slice s1 s'.jobs.length f1,.slice s2 s'.nodes.length f2,.slice s3 s'.leases.length f3]:=⟨G0.1.below hb9 G0.1.lt,G0.2.below hb9 G0.2.lt⟩
 clear hb9 HBt bxd
 refine hK.out _ _ G1 (fun hHeld=>?_)
 clear hK K
 (try simp only[Act.put,ma,mb,mc,md,me,mf])
 have G2:Blk (w9.setRow kx (dv (zsg v.st s') x1 x2 x3 x4 x5 x6 y1 y2 y3 y4 y5 y6)) g 94 (zsh v q1 q2 q3 d1 d2 d3)/\Blk (w9.setRow kx (dv (zsg v.st s') x1 x2 x3 x4 x5 x6 y1 y2 y3 y4 y5 y6)) gn 26 #[.int .i64 (v.st.rev+1),.slice s1 s'.jobs.length f1,.slice s2 s'.nodes.length f2,.slice s3 s'.leases.length f3]:=⟨G1.1.far_row (G1.1.ne_ bx9 (by decide)) _,G1.2.far_row (G1.2.ne_ bx9 (by decide)) _⟩
 refine tr 6 rfl (fun K hK=>?_)
 refine uxi rfl _ _ _ rfl kx rfl _ _ (dv (zsg v.st s') x1 x2 x3 x4 x5 x6 y1 y2 y3 y4 y5 y6) bx9 rfl uqv rfl (ukj _ _ _ _ _ _ _ _ _ _ _ _ _ _ _ _ _ _ _ _) ?_
 refine hK.out _ _ G2 (fun hHeld=>?_)
 clear hK K
 (try simp only[Act.put,ma,mb,mc,md,me,mf])
 refine wpAnyH_done (by kernel_rfl) ?_ _
 have hB9:=bthen hB8 hb89
 have gx:=growR w9 kx (dv (zsg v.st s') x1 x2 x3 x4 x5 x6 y1 y2 y3 y4 y5 y6)
 have hBx:Below w.heap.size w (w9.setRow kx (dv (zsg v.st s') x1 x2 x3 x4 x5 x6 y1 y2 y3 y4 y5 y6)):=uqh hB9 (by omega) _
 have br9:=GrB.blk gx (br8.bl hb89) (by omega)
 have bd9:=GrB.blk gx (bd8.bl hb89) (by omega)
 have bw9:=GrB.blk gx (bw8.bl hb89) ((bw8.bl hb89).ne_ bx9 (by decide))
 have ow9:=(ow8.below hb89).other gx bx9 (by decide) (by decide) (by decide)
 have by9:Blk (w9.setRow kx (dv (zsg v.st s') x1 x2 x3 x4 x5 x6 y1 y2 y3 y4 y5 y6)) kx 118 (dv (zsg v.st s') x1 x2 x3 x4 x5 x6 y1 y2 y3 y4 y5 y6):=bx9.setRow _
 have hlk:w.heap.size<=w8.drew.heap.size:=hB8.size
 have hk8:=bx8.lt
 have do9:=hDo.rowS (g:=kx) bx8.lt (dv (zsg v.st s') x1 x2 x3 x4 x5 x6 y1 y2 y3 y4 y5 y6)
 obtain⟨bs9,bn9⟩:=G2
 clear G0 G1 hHeld br8 bd8 bw8 ow8 bx8 bx9 bn8 gx hb89 hB8 hB9 hDo
 generalize w9.setRow _ _=w10 at *
 have hsv:w10.heap[g]?=some (.cells (([]:List Value)++[Value.int .i64 v.st.rev,Value.slice q1 v.st.jobs.length d1,Value.slice q2 v.st.nodes.length d2,Value.slice q3 v.st.leases.length d3]++[Value.int .i64 v.now]).toArray 94 (0,0)):=bs9
 have hone:∀u∈([Value.int .i64 (v.st.rev+1),Value.slice s1 s'.jobs.length f1,Value.slice s2 s'.nodes.length f2,Value.slice s3 s'.leases.length f3]:List Value),u.oneCell'=true:=by intro u hu;simp at hu;rcases hu with rfl | rfl | rfl | rfl | rfl <;> rfl
 go_upto_region 15 with(first | (refine uqw (by rfl) _ _ rfl (gn) rfl _ _ bn9 _ underlying26 rfl uqg ?_) | (refine uzf (g:=g) (t:=94) (A:=[]) (B:=[Value.int .i64 v.st.rev,Value.slice q1 v.st.jobs.length d1,Value.slice q2 v.st.nodes.length d2,Value.slice q3 v.st.leases.length d3]) (R:=[Value.int .i64 v.now]) (vs:=[Value.int .i64 (v.st.rev+1),Value.slice s1 s'.jobs.length f1,Value.slice s2 s'.nodes.length f2,Value.slice s3 s'.leases.length f3]) rfl _ _ _ rfl 0 rfl rfl hsv rfl rfl uqg hone #[.int .i64 (v.st.rev+1),.slice s1 s'.jobs.length f1,.slice s2 s'.nodes.length f2,.slice s3 s'.leases.length f3,.int .i64 v.now] rfl ?_))
 have gx:=growR w10 g #[.int .i64 (v.st.rev+1),.slice s1 s'.jobs.length f1,.slice s2 s'.nodes.length f2,.slice s3 s'.leases.length f3,.int .i64 v.now]
 have bs11:Blk (w10.setRow g #[.int .i64 (v.st.rev+1),.slice s1 s'.jobs.length f1,.slice s2 s'.nodes.length f2,.slice s3 s'.leases.length f3,.int .i64 v.now]) g 94 #[.int .i64 (v.st.rev+1),.slice s1 s'.jobs.length f1,.slice s2 s'.nodes.length f2,.slice s3 s'.leases.length f3,.int .i64 v.now]:=bs9.setRow _
 have ow11:=ow9.other gx bs9 (by decide) (by decide) (by decide)
 have br11:=GrB.blk gx br9 (br9.ne_ bs9 (by decide))
 have bd11:=GrB.blk gx bd9 (bd9.ne_ bs9 (by decide))
 have bw11:=GrB.blk gx bw9 (bw9.ne_ bs9 (by decide))
 have by11:=GrB.blk gx by9 (by9.ne_ bs9 (by decide))
 have g11:=GrB.then2 (uzo (some g) hBx) gx
 have do11:=do9.rowS (g:=g) (Nat.lt_of_lt_of_le hlg hlk) #[.int .i64 (v.st.rev+1),.slice s1 s'.jobs.length f1,.slice s2 s'.nodes.length f2,.slice s3 s'.leases.length f3,.int .i64 v.now]
 clear hsv hone bs9 bn9 ow9 br9 bd9 bw9 by9 gx hBx do9
 generalize w10.setRow _ _=w11 at *
 have M11:SvM w11 g s1 s2 s3 f1 f2 f3 ⟨{ s' with rev:=v.st.rev+1 },v.now⟩:=⟨bs11,⟨ow11.j.less (Nat.zero_le _),ow11.n.less (Nat.zero_le _),ow11.l.less (Nat.zero_le _)⟩⟩
 have x1:=bw11.c1
 have x2:=M11.b.c4
 have x3:w11.frozen? ⟨g,4,none⟩=false:=M11.b.frozen 4
 go_upto_region 17 with fail
 clear x1 x2 x3
 have gc:=ux4 w11 g 4 (.int .i64 now')
 have M12:=M11.setNow now'
 have g12:=GrB.then2 g11 gc
 have br12:=GrB.blk gc br11 (br11.ne_ M11.b (by decide))
 have bd12:=GrB.blk gc bd11 (bd11.ne_ M11.b (by decide))
 have by12:=GrB.blk gc by11 (by11.ne_ M11.b (by decide))
 have do12:=do11.cellS (a:=⟨g,4,none⟩) (Nat.lt_of_lt_of_le hlg hlk) (.int .i64 now')
 clear gc bw11 M11 br11 bd11 by11 ow11 bs11 do11 g11
 generalize w11.setCell _ _=w12 at *
 have G0:Blk w12.drew g 94 #[.int .i64 (v.st.rev+1),.slice s1 s'.jobs.length f1,.slice s2 s'.nodes.length f2,.slice s3 s'.leases.length f3,.int .i64 now']/\Blk w12.drew kx 118 (dv (zsg v.st s') x1 x2 x3 x4 x5 x6 y1 y2 y3 y4 y5 y6):=⟨M12.b.drew,by12.drew⟩
 have hr1:=br12.drew
 have hd1:=bd12.drew
 refine wp_region_held_drew (S:=fun W=>Blk W g 94 #[.int .i64 (v.st.rev+1),.slice s1 s'.jobs.length f1,.slice s2 s'.nodes.length f2,.slice s3 s'.leases.length f3,.int .i64 now']/\Blk W kx 118 (dv (zsg v.st s') x1 x2 x3 x4 x5 x6 y1 y2 y3 y4 y5 y6)) (by kernel_rfl) G0 (fun hHeld=>?_)
 refine tq 0 ?_ (hv:=by intro w5 hw5;obtain⟨ha_,hb_⟩:=hw5;have f0:=ha_.cell 0;have g0:=hb_.c0;have g1:=hb_.c1;have g2:=hb_.c2;have g3:=hb_.c3;have g4:=hb_.c4;have g5:=hb_.c5;have g6:=hb_.c6;have g7:=hb_.c7;go_simp;(try with_reducible rfl))
 refine tq 1 ?_ (hv:=by intro w5 hw5;obtain⟨ha_,hb_⟩:=hw5;have f0:=ha_.cell 0;have g0:=hb_.c0;have g1:=hb_.c1;have g2:=hb_.c2;have g3:=hb_.c3;have g4:=hb_.c4;have g5:=hb_.c5;have g6:=hb_.c6;have g7:=hb_.c7;go_simp;(try with_reducible rfl))
 refine tq 2 ?_ (hv:=by intro w5 hw5;obtain⟨ha_,hb_⟩:=hw5;have f0:=ha_.cell 0;have g0:=hb_.c0;have g1:=hb_.c1;have g2:=hb_.c2;have g3:=hb_.c3;have g4:=hb_.c4;have g5:=hb_.c5;have g6:=hb_.c6;have g7:=hb_.c7;go_simp;(try with_reducible rfl))
 refine tq 3 ?_ (hv:=by intro w5 hw5;obtain⟨ha_,hb_⟩:=hw5;have f0:=ha_.cell 0;have g0:=hb_.c0;have g1:=hb_.c1;have g2:=hb_.c2;have g3:=hb_.c3;have g4:=hb_.c4;have g5:=hb_.c5;have g6:=hb_.c6;have g7:=hb_.c7;go_simp;(try with_reducible rfl))
 refine tq 4 ?_ (hv:=by intro w5 hw5;obtain⟨ha_,hb_⟩:=hw5;have f0:=ha_.cell 0;have g0:=hb_.c0;have g1:=hb_.c1;have g2:=hb_.c2;have g3:=hb_.c3;have g4:=hb_.c4;have g5:=hb_.c5;have g6:=hb_.c6;have g7:=hb_.c7;go_simp;(try with_reducible rfl))
 refine tq 5 ?_ (hv:=by intro w5 hw5;obtain⟨ha_,hb_⟩:=hw5;have f0:=ha_.cell 0;have g0:=hb_.c0;have g1:=hb_.c1;have g2:=hb_.c2;have g3:=hb_.c3;have g4:=hb_.c4;have g5:=hb_.c5;have g6:=hb_.c6;have g7:=hb_.c7;go_simp;(try with_reducible rfl))
 refine tq 6 ?_ (hv:=by intro w5 hw5;obtain⟨ha_,hb_⟩:=hw5;have f0:=ha_.cell 0;have g0:=hb_.c0;have g1:=hb_.c1;have g2:=hb_.c2;have g3:=hb_.c3;have g4:=hb_.c4;have g5:=hb_.c5;have g6:=hb_.c6;have g7:=hb_.c7;go_simp;(try with_reducible rfl))
 refine tq 7 ?_ (hv:=by intro w5 hw5;obtain⟨ha_,hb_⟩:=hw5;have f0:=ha_.cell 0;have g0:=hb_.c0;have g1:=hb_.c1;have g2:=hb_.c2;have g3:=hb_.c3;have g4:=hb_.c4;have g5:=hb_.c5;have g6:=hb_.c6;have g7:=hb_.c7;go_simp;(try with_reducible rfl))
 refine tq 8 ?_ (hv:=by intro w5 hw5;obtain⟨ha_,hb_⟩:=hw5;have f0:=ha_.cell 0;have g0:=hb_.c0;have g1:=hb_.c1;have g2:=hb_.c2;have g3:=hb_.c3;have g4:=hb_.c4;have g5:=hb_.c5;have g6:=hb_.c6;have g7:=hb_.c7;go_simp;(try with_reducible rfl))
 have G1:Blk (w12.drew.setRow (w.heap.size+1) #[.int .i64 ((0:Nat):Int),.int .i64 (v.st.rev+1)]) g 94 #[.int .i64 (v.st.rev+1),.slice s1 s'.jobs.length f1,.slice s2 s'.nodes.length f2,.slice s3 s'.leases.length f3,.int .i64 now']/\Blk (w12.drew.setRow (w.heap.size+1) #[.int .i64 ((0:Nat):Int),.int .i64 (v.st.rev+1)]) kx 118 (dv (zsg v.st s') x1 x2 x3 x4 x5 x6 y1 y2 y3 y4 y5 y6):=(⟨G0.1.far_row (G0.1.ne_ hr1 (by decide)) #[.int .i64 ((0:Nat):Int),.int .i64 (v.st.rev+1)],G0.2.far_row (G0.2.ne_ hr1 (by decide)) #[.int .i64 ((0:Nat):Int),.int .i64 (v.st.rev+1)]⟩)
 have hd2:=hd1.far_row (hd1.ne_ hr1 (by decide)) #[.int .i64 ((0:Nat):Int),.int .i64 (v.st.rev+1)]
 refine tr 9 rfl (fun K hK=>?_)
 refine uxi rfl _ _ _ rfl (w.heap.size+1) rfl _ _ #[.int .i64 ((0:Nat):Int),.int .i64 (v.st.rev+1)] hr1 rfl ujy rfl (vjx _ _) ?_
 refine hK.out _ _ G1 (fun hHeld=>?_)
 clear hK K
 (try simp only[Act.put,ma,mb,mc,md,me,mf])
 have G2:Blk ((w12.drew.setRow (w.heap.size+1) #[.int .i64 ((0:Nat):Int),.int .i64 (v.st.rev+1)]).setRow (w.heap.size+2) (dv (zsg v.st s') x1 x2 x3 x4 x5 x6 y1 y2 y3 y4 y5 y6)) g 94 #[.int .i64 (v.st.rev+1),.slice s1 s'.jobs.length f1,.slice s2 s'.nodes.length f2,.slice s3 s'.leases.length f3,.int .i64 now']/\Blk ((w12.drew.setRow (w.heap.size+1) #[.int .i64 ((0:Nat):Int),.int .i64 (v.st.rev+1)]).setRow (w.heap.size+2) (dv (zsg v.st s') x1 x2 x3 x4 x5 x6 y1 y2 y3 y4 y5 y6)) kx 118 (dv (zsg v.st s') x1 x2 x3 x4 x5 x6 y1 y2 y3 y4 y5 y6):=⟨G1.1.far_row (G1.1.ne_ hd2 (by decide)) (dv (zsg v.st s') x1 x2 x3 x4 x5 x6 y1 y2 y3 y4 y5 y6),G1.2.far_row (by omega) (dv (zsg v.st s') x1 x2 x3 x4 x5 x6 y1 y2 y3 y4 y5 y6)⟩
 refine tr 10 rfl (fun K hK=>?_)
 refine uxi rfl _ _ _ rfl (w.heap.size+2) rfl _ _ (dv (zsg v.st s') x1 x2 x3 x4 x5 x6 y1 y2 y3 y4 y5 y6) hd2 rfl uqv rfl (ukj _ _ _ _ _ _ _ _ _ _ _ _ _ _ _ _ _ _ _ _) ?_
 refine hK.out _ _ G2 (fun hHeld=>?_)
 clear hK K
 (try simp only[Act.put,ma,mb,mc,md,me,mf])
 refine tq 11 ?_ (hv:=by intro w5 hw5;obtain⟨ha_,hb_⟩:=hw5;have f0:=ha_.cell 0;have g0:=hb_.c0;have g1:=hb_.c1;have g2:=hb_.c2;have g3:=hb_.c3;have g4:=hb_.c4;have g5:=hb_.c5;have g6:=hb_.c6;have g7:=hb_.c7;go_simp;(try with_reducible rfl))
 refine wpAnyH_done (by kernel_rfl) ?_ _
 have hr3:=(hr1.setRow #[.int .i64 ((0:Nat):Int),.int .i64 (v.st.rev+1)]).far_row ((hr1.setRow #[.int .i64 ((0:Nat):Int),.int .i64 (v.st.rev+1)]).ne_ hd2 (by decide)) (dv (zsg v.st s') x1 x2 x3 x4 x5 x6 y1 y2 y3 y4 y5 y6)
 have hd3:=hd2.setRow (dv (zsg v.st s') x1 x2 x3 x4 x5 x6 y1 y2 y3 y4 y5 y6)
 go_wp2_with fail
 refine bodyPost_ret (uvh rfl _ rfl hr3 underlying115 rfl ujy rfl hd3 underlying118 rfl uqv) rfl ?_
 obtain⟨m1,m2⟩:=vz5 (c1:=#[.int .i64 ((0:Nat):Int),.int .i64 (v.st.rev+1)]) (c2:=(dv (zsg v.st s') x1 x2 x3 x4 x5 x6 y1 y2 y3 y4 y5 y6)) ⟨s1,s2,s3,f1,f2,f3,M12⟩ g12 (by omega) (by omega) br12 bd12 (by decide) (by decide) (by omega)
 have dd:=((do12.drewS).rowS (g:=w.heap.size+1) (by have h:kx<w8.drew.heap.size:=hk8;omega) #[.int .i64 ((0:Nat):Int),.int .i64 (v.st.rev+1)]).rowS (g:=w.heap.size+2) (by have h:kx<w8.drew.heap.size:=hk8;omega) (dv (zsg v.st s') x1 x2 x3 x4 x5 x6 y1 y2 y3 y4 y5 y6)
 refine⟨x1,x2,x3,x4,x5,x6,y1,y2,y3,y4,y5,y6,?_,m1,m2,dd.lower (by have h:kx<w8.drew.heap.size:=hk8;omega)⟩
 rfl
theorem svDo_any (q:ReqD) (v:Srv) (g:Nat) (w:World) (hM:SvI w g v) (hv:SrvOk v) (HS:ReqSz q) (hT:Tabs w) :
  Calls prog 46 #[zse g,.agg (qv q)] w fun e w'=>vq6 w g (doR v q) e w':=by
 by_cases hq:reqE q=0
 ·have hN:doN v q=doW v q:=by unfold doN;rw[if_pos hq]
  rcases hd:doW v q with⟨⟨s',now'⟩,n⟩
  rcases ujh v q with⟨h1,h2,h3,he⟩ | ⟨h1,h2,h3,he⟩ | ⟨h1,h2,he⟩ | ⟨h1,he⟩ <;> rw[he]
  ·rw[hN,hd] at h1 h2
   simp only at h1 h2
   subst h1
   exact xyf q v g w hM hv HS hT hq s' now' hd h2 h3
  ·rw[hN,hd] at h1 h2
   simp only at h1 h2
   subst h1
   rw[hN,hd]
   exact xyh q v g w hM hv HS hT hq s' now' hd h2 h3
  ·rw[hN,hd] at h1 h2
   simp only at h1 h2
   subst h1
   rw[hN,hd]
   exact xyg q v g w hM hv HS hT hq s' now' hd h2
  ·rw[hN,hd] at h1
   rw[hN,hd]
   exact svDo_bad q v g w hM hv HS hT hq s' now' n hd h1
 ·have hN:doN v q=(v,reqE q):=by unfold doN;rw[if_neg hq]
  have he:doR v q=⟨reqE q,none,v⟩:=by
   rcases ujh v q with⟨h1,_⟩ | ⟨h1,_⟩ | ⟨h1,_⟩ | ⟨h1,he⟩
   ·rw[hN] at h1;exact absurd h1 hq
   ·rw[hN] at h1;exact absurd h1 hq
   ·rw[hN] at h1;exact absurd h1 hq
   ·rw[he,hN]
  rw[he]
  exact svDo_not q v g w hM hv HS hT hq
theorem ReqSz.of {q:ReqD} (h:okQ q):ReqSz q:=⟨h.2.1.1.1,h.2.1.1.2,h.2.2.1.1.1,h.2.2.1.1.2,h.2.2.2.1.1.1,h.2.2.2.1.1.2,h.2.2.2.2.1⟩
theorem sz0:ByteArray.empty.size<=9223372036854775807:=by decide
end Go.Proofs.YtknmnhleicakhaaGreatDoor
