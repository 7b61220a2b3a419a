/- Lemmas.
-/
import Derived.Test.YtknmnhleicakhaaGreatDoorPtSvSame
import Derived.Test.YtknmnhleicakhaaGreatDoorPtDoB
import Derived.Test.YtknmnhleicakhaaGreatDoorPtReqB
set_option linter.all false
set_option maxHeartbeats 16000000
set_option maxRecDepth 100000
namespace Go.Proofs.YtknmnhleicakhaaGreatDoor
open Go.Proofs.Tryz
open Go.RowKit
section
variable {P:Program} {w:World}
theorem uvh {fn:Func} {p p' u:Tmp} {ty t ty' t':TypeId} {g g':Nat} {cs cs':Array Value} {d d':TypeDesc} (h:fn.results=#[.cell p ty,.cell p' ty',.tmp u]) (tmps:Array Value) (hp:tmps.getD p undef=zse g) (hb:Blk w g t cs)
  (hu:P.underlying ty=some d) (hd:TypeDesc.isRow d=true) (hi:(P.info? ty).map (·.size)=some cs.size) (hp2:tmps.getD p' undef=zse g') (hb2:Blk w g' t' cs')
  (hu2:P.underlying ty'=some d') (hd2:TypeDesc.isRow d'=true) (hi2:(P.info? ty').map (·.size)=some cs'.size):(results fn tmps).run P w=.ok (.tuple #[.agg cs,.agg cs',tmps.getD u undef]) w:=by
 have h1:tmps[p]?.getD undef=zse g:=by simpa using hp
 have h2:tmps[p']?.getD undef=zse g':=by simpa using hp2
 simp only[results,h]
 simp[Sem.run_bind,Result.andThen,h1,h2,asAddr,ujm hb hu hd hi,ujm hb2 hu2 hd2 hi2]
end
theorem ukd (W:World):(zeroValue 115).run prog W=.ok (.agg #[.int .i64 0,.int .i64 0]) W:=by kernel_rfl
theorem ukr (W:World):(zeroValue 174).run prog W=.ok (.agg #[.pointer none,.int .i64 0]) W:=by kernel_rfl
theorem ujy:(prog.info? 115).map (·.size)=some 2:=by kernel_rfl
theorem vjx (a b:Int):(#[.int .i64 a,.int .i64 b]:Array Value).all (·.oneCell')=true:=by simp[Value.oneCell']
def toldD (r:DoR):uq0:=r.told.getD noD
def vq6 (w:World) (g:Nat) (r:DoR) (e:Ending) (w':World):Prop :=
 ∃x1 x2 x3 x4 x5 x6 y1 y2 y3 y4 y5 y6,e=.returned (.tuple #[.agg #[.int .i64 ((r.code:Nat):Int),.int .i64 r.srv.st.rev],.agg #[.int .i64 (toldD r).frm,.int .i64 (toldD r).upto,.slice x1 (toldD r).jobs.length y1,.slice x2 (toldD r).nodes.length y2,.slice x3 (toldD r).leases.length y3,.slice x4 (toldD r).gj.length y4,.slice x5 (toldD r).gn.length y5,.slice x6 (toldD r).gl.length y6],.bool r.told.isSome])/\SvI w' g r.srv/\w.grownBy w' (some g)/\DelOwn w' w.heap.size x1 x2 x3 x4 x5 x6 y1 y2 y3 y4 y5 y6 (toldD r)
theorem OwnR.nil0 (w:World) (base size:Nat) (E:TypeId):OwnR w base E size none 0 []:=⟨by simp,World.ownsRow_nil _ _ _ _⟩
theorem DelOwn.nil0 (w:World) (base:Nat):DelOwn w base none none none none none none 0 0 0 0 0 0 noD:=⟨OwnR.nil0 _ _ _ _,OwnR.nil0 _ _ _ _,OwnR.nil0 _ _ _ _,OwnR.nil0 _ _ _ _,OwnR.nil0 _ _ _ _,OwnR.nil0 _ _ _ _⟩
def svT (v:Srv):Srv×Nat:=(⟨v.st,v.now⟩,0)
section
variable {w:World} {base:Nat} {p1 p2 p3 p4 p5 p6:Zoa} {c1 c2 c3 c4 c5 c6:Nat} {d:uq0}
theorem DelOwn.cellS (h:DelOwn w base p1 p2 p3 p4 p5 p6 c1 c2 c3 c4 c5 c6 d) {a:Addr} (ha:a.block<base) (u:Value):DelOwn (w.setCell a u) base p1 p2 p3 p4 p5 p6 c1 c2 c3 c4 c5 c6 d :=
 ⟨OwnR.cell_ h.j ha u,OwnR.cell_ h.n ha u,OwnR.cell_ h.l ha u,OwnR.cell_ h.gj ha u,OwnR.cell_ h.gn ha u,OwnR.cell_ h.gl ha u⟩
theorem DelOwn.rowS (h:DelOwn w base p1 p2 p3 p4 p5 p6 c1 c2 c3 c4 c5 c6 d) {g:Nat} (ha:g<base) (cs:Array Value):DelOwn (w.setRow g cs) base p1 p2 p3 p4 p5 p6 c1 c2 c3 c4 c5 c6 d :=
 ⟨OwnR.row_ h.j ha cs,OwnR.row_ h.n ha cs,OwnR.row_ h.l ha cs,OwnR.row_ h.gj ha cs,OwnR.row_ h.gn ha cs,OwnR.row_ h.gl ha cs⟩
theorem DelOwn.drewS (h:DelOwn w base p1 p2 p3 p4 p5 p6 c1 c2 c3 c4 c5 c6 d):DelOwn w.drew base p1 p2 p3 p4 p5 p6 c1 c2 c3 c4 c5 c6 d:=h.below (zri _ w).drew
end
theorem Blk.far_row {w:World} {g k:Nat} {t:TypeId} {cs:Array Value} (h:Blk w k t cs) (hne:k≠g) (cs':Array Value):Blk (w.setRow g cs') k t cs:=(setRow_other w g k cs' hne).trans h
theorem vz5 {w W:World} {g k1 k2:Nat} {v:Srv} {c1 c2:Array Value} (hM:SvI W g v) (hg:w.grownBy W (some g)) (h1:w.heap.size<=k1) (h2:w.heap.size<=k2) {t1 t2:TypeId} {a1 a2:Array Value} (b1:Blk W k1 t1 a1) (b2:Blk W k2 t2 a2)
  (n1:t1≠94 /\ 38 ≠ t1/\40 ≠ t1/\42 ≠ t1) (n2:t2≠94 /\ 38 ≠ t2/\40 ≠ t2/\42 ≠ t2) (hne:k1≠k2) :
  SvI ((W.drew.setRow k1 c1).setRow k2 c2) g v/\w.grownBy ((W.drew.setRow k1 c1).setRow k2 c2) (some g):=by
 obtain⟨q1,q2,q3,d1,d2,d3,hM⟩:=hM
 have M0:=hM.below (zri _ W).drew
 have e1:=b1.drew
 have e2:=b2.drew.far_row (Ne.symm hne) c1
 have M1:SvM (W.drew.setRow k1 c1) g q1 q2 q3 d1 d2 d3 v:=⟨M0.b.far_row (M0.b.ne_ e1 (Ne.symm n1.1)) c1,M0.own.other (growR _ k1 c1) e1 n1.2.1 n1.2.2.1 n1.2.2.2⟩
 have M2:SvM ((W.drew.setRow k1 c1).setRow k2 c2) g q1 q2 q3 d1 d2 d3 v:=⟨M1.b.far_row (M1.b.ne_ e2 (Ne.symm n2.1)) c2,M1.own.other (growR _ k2 c2) e2 n2.2.1 n2.2.2.1 n2.2.2.2⟩
 refine⟨⟨q1,q2,q3,d1,d2,d3,M2⟩,⟨hg.os,hg.tape,hg.output,?_,fun k hk hn=>?_⟩⟩
 ·simpa using hg.size
 ·have x1:=setRow_other (W.drew.setRow k1 c1) k2 k c2 (by omega)
  have x2:=setRow_other W.drew k1 k c1 (by omega)
  exact(x1.trans x2).trans (hg.block k hk hn)
theorem SvM.setNow {w:World} {g:Nat} {q1 q2 q3:Zoa} {d1 d2 d3:Nat} {v:Srv} (h:SvM w g q1 q2 q3 d1 d2 d3 v) (m:Int):SvM (w.setCell ⟨g,4,none⟩ (.int .i64 m)) g q1 q2 q3 d1 d2 d3 ⟨v.st,m⟩ :=
 ⟨h.b.set_ 4 _,h.own.other (ux4 w g 4 _) h.b (by decide) (by decide) (by decide)⟩
theorem doN_s {v:Srv} {q:ReqD} (hv:SrvOk v) (hq:reqE q=0) {s':St} {now':Int} (hd:doW v q=(⟨s',now'⟩,0)):Fine s'/\s'.rev=v.st.rev:=by
 have h1:=(doW_ok hv hq (by rw[hd])).1.1
 have h2:=xkn v q
 rw[hd] at h1 h2
 exact⟨h1,h2⟩
theorem svDo_not (q:ReqD) (v:Srv) (g:Nat) (w:World) (hM:SvI w g v) (hv:SrvOk v) (HS:ReqSz q) (hT:Tabs w) (hq:reqE q≠0) :
  Calls prog 46 #[zse g,.agg (qv q)] w fun e w'=>vq6 w g (⟨reqE q,none,v⟩) e w':=by
 obtain⟨q1,q2,q3,d1,d2,d3,hM⟩:=hM
 have F:=hv.1
 have hnow:=hv.2
 have hzr:=ukd
 have hzd:=ux6
 have hzs:=uq3
 have hzw:=ukr
 have hb0:Below w.heap.size w (((w.alloc (.cells (qv q) 44)).alloc (.cells #[.int .i64 0,.int .i64 0] 115)).alloc (.cells zdv 118)):=(((zri _ _).alloc (zra _) _).alloc (by simp) _).alloc (by simp;omega) _
 have bq0:=((Blk.new w 44 (qv q)).alloc (.cells #[.int .i64 0,.int .i64 0] 115)).alloc (.cells zdv 118)
 have br0:Blk (((w.alloc (.cells (qv q) 44)).alloc (.cells #[.int .i64 0,.int .i64 0] 115)).alloc (.cells zdv 118)) (w.heap.size+1) 115 #[.int .i64 0,.int .i64 0]:=by
  have:=(Blk.new (w.alloc (.cells (qv q) 44)) 115 #[.int .i64 0,.int .i64 0]).alloc (.cells zdv 118)
  rwa [show(w.alloc (.cells (qv q) 44)).heap.size=w.heap.size+1 by simp] at this
 have bd0:Blk (((w.alloc (.cells (qv q) 44)).alloc (.cells #[.int .i64 0,.int .i64 0] 115)).alloc (.cells zdv 118)) (w.heap.size+2) 118 zdv:=by
  have:=Blk.new ((w.alloc (.cells (qv q) 44)).alloc (.cells #[.int .i64 0,.int .i64 0] 115)) 118 zdv
  rwa [show((w.alloc (.cells (qv q) 44)).alloc (.cells #[.int .i64 0,.int .i64 0] 115)).heap.size=w.heap.size+2 by simp] at this
 have HCk:=zrj (fun(W:World) (hW:Below w.heap.size w W)=>uzc q W HS (hT.below hW))
 have HO:=zrj (fun(W:World) (hW:Below w.heap.size w W)=>uwn v.st q1 q2 q3 d1 d2 d3 W (hM.below hW).m (by have:=F.nj;omega) (by have:=F.nn;omega) (by have:=F.nl;omega))
 have HM:=zrj (fun(W:World) (hW:Below w.heap.size w W)=>hM.below hW)
 have HT:=zrj (fun(W:World) (hW:Below w.heap.size w W)=>hT.below hW)
 have z0:(((reqE q:Nat):Int) == 0)=false:=by rw[zrf];omega
 clear hq hT HS hM hv F hnow
 generalize reqE q=n at *
 go_enter func46,ntmps46
 go_wp2_with(first | (refine uqw (by rfl) _ _ rfl (w.heap.size) rfl _ _ bq0 _ underlying44 rfl uqd ?_))
 generalize((w.alloc _).alloc _).alloc _=w0 at *
 refine(HCk.out w0 hb0).mono ?_
 rintro e w1 ⟨rfl,hb1⟩
 have hB1:=bthen hb0 hb1
 have bq1:=bq0.bl hb1
 have br1:=br0.bl hb1
 have bd1:=bd0.bl hb1
 have hM1:=HM.out w1 hB1
 have hat1:=hM1.at
 clear hb0 hb1 bq0 br0 bd0 HCk
 go_wp2_with(first | (refine uqe rfl _ _ rfl ⟨g,0,none⟩ rfl [Value.int .i64 v.st.rev,Value.slice q1 v.st.jobs.length d1,Value.slice q2 v.st.nodes.length d2,Value.slice q3 v.st.leases.length d3] _ hat1 underlying26 rfl uqg ?_))
 refine(HO.out w1 hB1).mono ?_
 rintro e w2 ⟨r1,r2,r3,e1,e2,e3,rfl,hO,hb2⟩
 have hB2:=bthen hB1 hb2
 have hO:=hO.less hB1.size
 have bq2:=bq1.bl hb2
 have br2:=br1.bl hb2
 have bd2:=bd1.bl hb2
 have hb3:=zsa w2 (.cells (stv v.st r1 r2 r3 e1 e2 e3) 26)
 have hs3:=zsb w2 (.cells (stv v.st r1 r2 r3 e1 e2 e3) 26)
 have hb4:Below w2.heap.size w2 ((w2.alloc (.cells (stv v.st r1 r2 r3 e1 e2 e3) 26)).alloc (.cells #[zse w2.heap.size,.int .i64 v.now] 174)):=hb3.alloc (by simp) _
 have hw4:WorkM ((w2.alloc (.cells (stv v.st r1 r2 r3 e1 e2 e3) 26)).alloc (.cells #[zse w2.heap.size,.int .i64 v.now] 174)) w.heap.size w2.heap.size (w2.heap.size+1) r1 r2 r3 e1 e2 e3 v.st v.now:=⟨by have:=Blk.new (w2.alloc (.cells (stv v.st r1 r2 r3 e1 e2 e3) 26)) 174 #[zse w2.heap.size,.int .i64 v.now];rwa [hs3] at this,(Blk.new w2 26 (stv v.st r1 r2 r3 e1 e2 e3)).alloc _,hO.below hb4,hB2.size,Nat.le_succ_of_le hB2.size⟩
 have hB4:=bthen hB2 hb4
 have bq4:=bq2.bl hb4
 have br4:=br2.bl hb4
 have bd4:=bd2.bl hb4
 have c4:(w2.alloc (.cells (stv v.st r1 r2 r3 e1 e2 e3) 26)).cell? ⟨g,4,none⟩=some (.int .i64 v.now):=(HM.out _ (bthen hB2 hb3)).b.cell 4
 clear hO hB1 hb2 hB2 hb4 hb3 bq1 br1 bd1 bq2 br2 bd2 hM1 hat1 HO
 go_upto_region 4 with(first | (refine uqf rfl _ _ _ rfl rfl 26 _ (stv v.st r1 r2 r3 e1 e2 e3) rfl uqg rfl (ux8 _ _ _ _ _ _ _ _ _ _) ?_))
 clear hs3 c4
 generalize w2.heap.size=gn at *
 generalize(w2.alloc _).alloc _=w4 at *
 have hM5:=HM.out _ hB4
 go_upto_region 6 with fail
 go_big_quiet (fail)
 have hbn:Below w4.heap.size w4 (w4.drewN nq):=⟨rfl,rfl,rfl,zra _,fun _ _=>rfl⟩
 have hB6:=bthen hB4 hbn
 have br6:=br4.bl hbn
 have bd6:=bd4.bl hbn
 generalize w4.drewN nq=w6 at *
 go_upto_region 17 with fail
 have hB7:=hB6.alloc hB6.size (.cells zdv 118)
 have br7:=br6.alloc (.cells zdv 118)
 have bd7:=bd6.alloc (.cells zdv 118)
 have bx7:=Blk.new w6 118 zdv
 have hkd:=bd6.lt
 have M7:=HM.out _ hB7
 generalize hkx:w6.heap.size=kx at *
 generalize w6.alloc _=w7 at *
 have G0:Blk w7.drew g 94 (zsh v q1 q2 q3 d1 d2 d3)/\Blk w7.drew kx 118 zdv:=⟨M7.b.drew,bx7.drew⟩
 have hr1:=br7.drew
 have hd1:=bd7.drew
 refine wp_region_held_drew (S:=fun W=>Blk W g 94 (zsh v q1 q2 q3 d1 d2 d3)/\Blk W kx 118 zdv) (by kernel_rfl) G0 (fun hHeld=>?_)
 refine tq 0 ?_
 refine tq 1 ?_
 refine tq 2 ?_
 refine tq 3 ?_
 refine tq 4 ?_
 refine tq 5 ?_
 refine tq 6 ?_
 refine tq 7 ?_
 refine tq 8 ?_
 have G1:Blk (w7.drew.setRow (w.heap.size+1) #[.int .i64 ((n:Nat):Int),.int .i64 v.st.rev]) g 94 (zsh v q1 q2 q3 d1 d2 d3)/\Blk (w7.drew.setRow (w.heap.size+1) #[.int .i64 ((n:Nat):Int),.int .i64 v.st.rev]) kx 118 zdv:=(⟨G0.1.far_row (G0.1.ne_ hr1 (by decide)) #[.int .i64 ((n:Nat):Int),.int .i64 v.st.rev],G0.2.far_row (G0.2.ne_ hr1 (by decide)) #[.int .i64 ((n:Nat):Int),.int .i64 v.st.rev]⟩)
 have hd2:=hd1.far_row (hd1.ne_ hr1 (by decide)) #[.int .i64 ((n:Nat):Int),.int .i64 v.st.rev]
 refine tr 9 rfl (fun K hK=>?_)
 refine uxi rfl _ _ _ rfl (w.heap.size+1) rfl _ _ #[.int .i64 ((n:Nat):Int),.int .i64 v.st.rev] hr1 rfl ujy rfl (vjx _ _) ?_
 refine hK.out _ _ G1 (fun hHeld=>?_)
 clear hK K
 (try simp only[Act.put,ma,mb,mc,md,me,mf])
 have G2:Blk ((w7.drew.setRow (w.heap.size+1) #[.int .i64 ((n:Nat):Int),.int .i64 v.st.rev]).setRow (w.heap.size+2) zdv) g 94 (zsh v q1 q2 q3 d1 d2 d3)/\Blk ((w7.drew.setRow (w.heap.size+1) #[.int .i64 ((n:Nat):Int),.int .i64 v.st.rev]).setRow (w.heap.size+2) zdv) kx 118 zdv:=⟨G1.1.far_row (G1.1.ne_ hd2 (by decide)) zdv,G1.2.far_row (by omega) zdv⟩
 refine tr 10 rfl (fun K hK=>?_)
 refine uxi rfl _ _ _ rfl (w.heap.size+2) rfl _ _ zdv hd2 rfl uqv rfl (ukj _ _ _ _ _ _ _ _ _ _ _ _ _ _ _ _ _ _ _ _) ?_
 refine hK.out _ _ G2 (fun hHeld=>?_)
 clear hK K
 (try simp only[Act.put,ma,mb,mc,md,me,mf])
 refine tq 11 ?_
 refine wpAnyH_done (by kernel_rfl) ?_ _
 have hr3:=(hr1.setRow #[.int .i64 ((n:Nat):Int),.int .i64 v.st.rev]).far_row ((hr1.setRow #[.int .i64 ((n:Nat):Int),.int .i64 v.st.rev]).ne_ hd2 (by decide)) zdv
 have hd3:=hd2.setRow zdv
 go_wp2_with fail
 refine bodyPost_ret (uvh rfl _ rfl hr3 underlying115 rfl ujy rfl hd3 underlying118 rfl uqv) rfl ?_
 obtain⟨m1,m2⟩:=vz5 (c1:=#[.int .i64 ((n:Nat):Int),.int .i64 v.st.rev]) (c2:=zdv) ⟨q1,q2,q3,d1,d2,d3,M7⟩ (uzo (some g) hB7) (by omega) (by omega) br7 bd7 (by decide) (by decide) (by omega)
 refine⟨none,none,none,none,none,none,0,0,0,0,0,0,?_,m1,m2,DelOwn.nil0 _ _⟩
 rfl
theorem svDo_bad (q:ReqD) (v:Srv) (g:Nat) (w:World) (hM:SvI w g v) (hv:SrvOk v) (HS:ReqSz q) (hT:Tabs w) (hq:reqE q=0) (s':St) (now':Int) (n:Nat) (hd:doW v q=(⟨s',now'⟩,n)) (hn:n≠0) :
  Calls prog 46 #[zse g,.agg (qv q)] w fun e w'=>vq6 w g (⟨n,none,v⟩) e w':=by
 obtain⟨q1,q2,q3,d1,d2,d3,hM⟩:=hM
 have F:=hv.1
 have hnow:=hv.2
 have hzr:=ukd
 have hzd:=ux6
 have hzs:=uq3
 have hzw:=ukr
 have hb0:Below w.heap.size w (((w.alloc (.cells (qv q) 44)).alloc (.cells #[.int .i64 0,.int .i64 0] 115)).alloc (.cells zdv 118)):=(((zri _ _).alloc (zra _) _).alloc (by simp) _).alloc (by simp;omega) _
 have bq0:=((Blk.new w 44 (qv q)).alloc (.cells #[.int .i64 0,.int .i64 0] 115)).alloc (.cells zdv 118)
 have br0:Blk (((w.alloc (.cells (qv q) 44)).alloc (.cells #[.int .i64 0,.int .i64 0] 115)).alloc (.cells zdv 118)) (w.heap.size+1) 115 #[.int .i64 0,.int .i64 0]:=by
  have:=(Blk.new (w.alloc (.cells (qv q) 44)) 115 #[.int .i64 0,.int .i64 0]).alloc (.cells zdv 118)
  rwa [show(w.alloc (.cells (qv q) 44)).heap.size=w.heap.size+1 by simp] at this
 have bd0:Blk (((w.alloc (.cells (qv q) 44)).alloc (.cells #[.int .i64 0,.int .i64 0] 115)).alloc (.cells zdv 118)) (w.heap.size+2) 118 zdv:=by
  have:=Blk.new ((w.alloc (.cells (qv q) 44)).alloc (.cells #[.int .i64 0,.int .i64 0] 115)) 118 zdv
  rwa [show((w.alloc (.cells (qv q) 44)).alloc (.cells #[.int .i64 0,.int .i64 0] 115)).heap.size=w.heap.size+2 by simp] at this
 have HCk:=zrj (fun(W:World) (hW:Below w.heap.size w W)=>uzc q W HS (hT.below hW))
 have HO:=zrj (fun(W:World) (hW:Below w.heap.size w W)=>uwn v.st q1 q2 q3 d1 d2 d3 W (hM.below hW).m (by have:=F.nj;omega) (by have:=F.nn;omega) (by have:=F.nl;omega))
 have HM:=zrj (fun(W:World) (hW:Below w.heap.size w W)=>hM.below hW)
 have HT:=zrj (fun(W:World) (hW:Below w.heap.size w W)=>hT.below hW)
 rw[hq] at HCk
 have z1:(((0:Nat):Int) == 0)=true:=rfl
 have z0:(((n:Nat):Int) == 0)=false:=by rw[zrf];omega
 clear hn hT HS hM hv
 go_enter func46,ntmps46
 go_wp2_with(first | (refine uqw (by rfl) _ _ rfl (w.heap.size) rfl _ _ bq0 _ underlying44 rfl uqd ?_))
 generalize((w.alloc _).alloc _).alloc _=w0 at *
 refine(HCk.out w0 hb0).mono ?_
 rintro e w1 ⟨rfl,hb1⟩
 have hB1:=bthen hb0 hb1
 have bq1:=bq0.bl hb1
 have br1:=br0.bl hb1
 have bd1:=bd0.bl hb1
 have hM1:=HM.out w1 hB1
 have hat1:=hM1.at
 clear hb0 hb1 bq0 br0 bd0 HCk
 go_wp2_with(first | (refine uqe rfl _ _ rfl ⟨g,0,none⟩ rfl [Value.int .i64 v.st.rev,Value.slice q1 v.st.jobs.length d1,Value.slice q2 v.st.nodes.length d2,Value.slice q3 v.st.leases.length d3] _ hat1 underlying26 rfl uqg ?_))
 refine(HO.out w1 hB1).mono ?_
 rintro e w2 ⟨r1,r2,r3,e1,e2,e3,rfl,hO,hb2⟩
 have hB2:=bthen hB1 hb2
 have hO:=hO.less hB1.size
 have bq2:=bq1.bl hb2
 have br2:=br1.bl hb2
 have bd2:=bd1.bl hb2
 have hb3:=zsa w2 (.cells (stv v.st r1 r2 r3 e1 e2 e3) 26)
 have hs3:=zsb w2 (.cells (stv v.st r1 r2 r3 e1 e2 e3) 26)
 have hb4:Below w2.heap.size w2 ((w2.alloc (.cells (stv v.st r1 r2 r3 e1 e2 e3) 26)).alloc (.cells #[zse w2.heap.size,.int .i64 v.now] 174)):=hb3.alloc (by simp) _
 have hw4:WorkM ((w2.alloc (.cells (stv v.st r1 r2 r3 e1 e2 e3) 26)).alloc (.cells #[zse w2.heap.size,.int .i64 v.now] 174)) w.heap.size w2.heap.size (w2.heap.size+1) r1 r2 r3 e1 e2 e3 v.st v.now:=⟨by have:=Blk.new (w2.alloc (.cells (stv v.st r1 r2 r3 e1 e2 e3) 26)) 174 #[zse w2.heap.size,.int .i64 v.now];rwa [hs3] at this,(Blk.new w2 26 (stv v.st r1 r2 r3 e1 e2 e3)).alloc _,hO.below hb4,hB2.size,Nat.le_succ_of_le hB2.size⟩
 have hB4:=bthen hB2 hb4
 have bq4:=bq2.bl hb4
 have br4:=br2.bl hb4
 have bd4:=bd2.bl hb4
 have c4:(w2.alloc (.cells (stv v.st r1 r2 r3 e1 e2 e3) 26)).cell? ⟨g,4,none⟩=some (.int .i64 v.now):=(HM.out _ (bthen hB2 hb3)).b.cell 4
 clear hO hB1 hb2 hB2 hb4 hb3 bq1 br1 bd1 bq2 br2 bd2 hM1 hat1 HO
 go_upto_region 4 with(first | (refine uqf rfl _ _ _ rfl rfl 26 _ (stv v.st r1 r2 r3 e1 e2 e3) rfl uqg rfl (ux8 _ _ _ _ _ _ _ _ _ _) ?_))
 clear hs3 c4
 generalize w2.heap.size=gn at *
 generalize(w2.alloc _).alloc _=w4 at *
 have HDo:=zrj (wyp q w.heap.size gn (gn+1) r1 r2 r3 e1 e2 e3 v.st v.now w4 hw4 hB4.size F (fun W hW=>HT.out W (hB4.trans hW)) hq hnow)
 rw[hd] at HDo
 have z1:(((0:Nat):Int) == 0)=true:=rfl
 clear hw4
 go_wp2_with(first | (refine uqw (by rfl) _ _ rfl (w.heap.size) rfl _ _ bq4 _ underlying44 rfl uqd ?_))
 refine HDo.out.mono ?_
 rintro e w5 ⟨s1,s2,s3,f1,f2,f3,rfl,hw5,hBd,hK,hS⟩
 have hB5:=hB4.trans hBd
 have br5:=hK _ _ _ br4 (by decide) (by decide) (by decide) (by decide) (by decide)
 have bd5:=hK _ _ _ bd4 (by decide) (by decide) (by decide) (by decide) (by decide)
 have hM5:=HM.out _ hB5
 clear HDo hBd hK hS hB4 bq4 br4 bd4 hq
 clear hw5 hM5 z1 hd hnow F
 have hM5:=HM.out _ hB5
 go_upto_region 6 with fail
 go_big_quiet (fail)
 have hbn:Below w5.heap.size w5 (w5.drewN nq):=⟨rfl,rfl,rfl,zra _,fun _ _=>rfl⟩
 have hB6:=bthen hB5 hbn
 have br6:=br5.bl hbn
 have bd6:=bd5.bl hbn
 generalize w5.drewN nq=w6 at *
 go_upto_region 17 with fail
 have hB7:=hB6.alloc hB6.size (.cells zdv 118)
 have br7:=br6.alloc (.cells zdv 118)
 have bd7:=bd6.alloc (.cells zdv 118)
 have bx7:=Blk.new w6 118 zdv
 have hkd:=bd6.lt
 have M7:=HM.out _ hB7
 generalize hkx:w6.heap.size=kx at *
 generalize w6.alloc _=w7 at *
 have G0:Blk w7.drew g 94 (zsh v q1 q2 q3 d1 d2 d3)/\Blk w7.drew kx 118 zdv:=⟨M7.b.drew,bx7.drew⟩
 have hr1:=br7.drew
 have hd1:=bd7.drew
 refine wp_region_held_drew (S:=fun W=>Blk W g 94 (zsh v q1 q2 q3 d1 d2 d3)/\Blk W kx 118 zdv) (by kernel_rfl) G0 (fun hHeld=>?_)
 refine tq 0 ?_
 refine tq 1 ?_
 refine tq 2 ?_
 refine tq 3 ?_
 refine tq 4 ?_
 refine tq 5 ?_
 refine tq 6 ?_
 refine tq 7 ?_
 refine tq 8 ?_
 have G1:Blk (w7.drew.setRow (w.heap.size+1) #[.int .i64 ((n:Nat):Int),.int .i64 v.st.rev]) g 94 (zsh v q1 q2 q3 d1 d2 d3)/\Blk (w7.drew.setRow (w.heap.size+1) #[.int .i64 ((n:Nat):Int),.int .i64 v.st.rev]) kx 118 zdv:=(⟨G0.1.far_row (G0.1.ne_ hr1 (by decide)) #[.int .i64 ((n:Nat):Int),.int .i64 v.st.rev],G0.2.far_row (G0.2.ne_ hr1 (by decide)) #[.int .i64 ((n:Nat):Int),.int .i64 v.st.rev]⟩)
 have hd2:=hd1.far_row (hd1.ne_ hr1 (by decide)) #[.int .i64 ((n:Nat):Int),.int .i64 v.st.rev]
 refine tr 9 rfl (fun K hK=>?_)
 refine uxi rfl _ _ _ rfl (w.heap.size+1) rfl _ _ #[.int .i64 ((n:Nat):Int),.int .i64 v.st.rev] hr1 rfl ujy rfl (vjx _ _) ?_
 refine hK.out _ _ G1 (fun hHeld=>?_)
 clear hK K
 (try simp only[Act.put,ma,mb,mc,md,me,mf])
 have G2:Blk ((w7.drew.setRow (w.heap.size+1) #[.int .i64 ((n:Nat):Int),.int .i64 v.st.rev]).setRow (w.heap.size+2) zdv) g 94 (zsh v q1 q2 q3 d1 d2 d3)/\Blk ((w7.drew.setRow (w.heap.size+1) #[.int .i64 ((n:Nat):Int),.int .i64 v.st.rev]).setRow (w.heap.size+2) zdv) kx 118 zdv:=⟨G1.1.far_row (G1.1.ne_ hd2 (by decide)) zdv,G1.2.far_row (by omega) zdv⟩
 refine tr 10 rfl (fun K hK=>?_)
 refine uxi rfl _ _ _ rfl (w.heap.size+2) rfl _ _ zdv hd2 rfl uqv rfl (ukj _ _ _ _ _ _ _ _ _ _ _ _ _ _ _ _ _ _ _ _) ?_
 refine hK.out _ _ G2 (fun hHeld=>?_)
 clear hK K
 (try simp only[Act.put,ma,mb,mc,md,me,mf])
 refine tq 11 ?_
 refine wpAnyH_done (by kernel_rfl) ?_ _
 have hr3:=(hr1.setRow #[.int .i64 ((n:Nat):Int),.int .i64 v.st.rev]).far_row ((hr1.setRow #[.int .i64 ((n:Nat):Int),.int .i64 v.st.rev]).ne_ hd2 (by decide)) zdv
 have hd3:=hd2.setRow zdv
 go_wp2_with fail
 refine bodyPost_ret (uvh rfl _ rfl hr3 underlying115 rfl ujy rfl hd3 underlying118 rfl uqv) rfl ?_
 obtain⟨m1,m2⟩:=vz5 (c1:=#[.int .i64 ((n:Nat):Int),.int .i64 v.st.rev]) (c2:=zdv) ⟨q1,q2,q3,d1,d2,d3,M7⟩ (uzo (some g) hB7) (by omega) (by omega) br7 bd7 (by decide) (by decide) (by omega)
 refine⟨none,none,none,none,none,none,0,0,0,0,0,0,?_,m1,m2,DelOwn.nil0 _ _⟩
 rfl
theorem xyg (q:ReqD) (v:Srv) (g:Nat) (w:World) (hM:SvI w g v) (hv:SrvOk v) (HS:ReqSz q) (hT:Tabs w) (hq:reqE q=0) (s':St) (now':Int) (hd:doW v q=(⟨s',now'⟩,0)) (hs:sameT v.st s'=true) :
  Calls prog 46 #[zse g,.agg (qv q)] w fun e w'=>vq6 w g (⟨0,none,⟨v.st,now'⟩⟩) e w':=by
 have F':Fine s':=(doN_s hv hq hd).1
 have HREV:=zrj (show s'.rev=v.st.rev from(doN_s hv hq hd).2)
 obtain⟨q1,q2,q3,d1,d2,d3,hM⟩:=hM
 have F:=hv.1
 have hnow:=hv.2
 have hzr:=ukd
 have hzd:=ux6
 have hzs:=uq3
 have hzw:=ukr
 have hb0:Below w.heap.size w (((w.alloc (.cells (qv q) 44)).alloc (.cells #[.int .i64 0,.int .i64 0] 115)).alloc (.cells zdv 118)):=(((zri _ _).alloc (zra _) _).alloc (by simp) _).alloc (by simp;omega) _
 have bq0:=((Blk.new w 44 (qv q)).alloc (.cells #[.int .i64 0,.int .i64 0] 115)).alloc (.cells zdv 118)
 have br0:Blk (((w.alloc (.cells (qv q) 44)).alloc (.cells #[.int .i64 0,.int .i64 0] 115)).alloc (.cells zdv 118)) (w.heap.size+1) 115 #[.int .i64 0,.int .i64 0]:=by
  have:=(Blk.new (w.alloc (.cells (qv q) 44)) 115 #[.int .i64 0,.int .i64 0]).alloc (.cells zdv 118)
  rwa [show(w.alloc (.cells (qv q) 44)).heap.size=w.heap.size+1 by simp] at this
 have bd0:Blk (((w.alloc (.cells (qv q) 44)).alloc (.cells #[.int .i64 0,.int .i64 0] 115)).alloc (.cells zdv 118)) (w.heap.size+2) 118 zdv:=by
  have:=Blk.new ((w.alloc (.cells (qv q) 44)).alloc (.cells #[.int .i64 0,.int .i64 0] 115)) 118 zdv
  rwa [show((w.alloc (.cells (qv q) 44)).alloc (.cells #[.int .i64 0,.int .i64 0] 115)).heap.size=w.heap.size+2 by simp] at this
 have HCk:=zrj (fun(W:World) (hW:Below w.heap.size w W)=>uzc q W HS (hT.below hW))
 have HO:=zrj (fun(W:World) (hW:Below w.heap.size w W)=>uwn v.st q1 q2 q3 d1 d2 d3 W (hM.below hW).m (by have:=F.nj;omega) (by have:=F.nn;omega) (by have:=F.nl;omega))
 have HM:=zrj (fun(W:World) (hW:Below w.heap.size w W)=>hM.below hW)
 have HT:=zrj (fun(W:World) (hW:Below w.heap.size w W)=>hT.below hW)
 rw[hq] at HCk
 have z1:(((0:Nat):Int) == 0)=true:=rfl
 have hlg:=hM.b.lt
 clear hT HS hM hv
 go_enter func46,ntmps46
 go_wp2_with(first | (refine uqw (by rfl) _ _ rfl (w.heap.size) rfl _ _ bq0 _ underlying44 rfl uqd ?_))
 generalize((w.alloc _).alloc _).alloc _=w0 at *
 refine(HCk.out w0 hb0).mono ?_
 rintro e w1 ⟨rfl,hb1⟩
 have hB1:=bthen hb0 hb1
 have bq1:=bq0.bl hb1
 have br1:=br0.bl hb1
 have bd1:=bd0.bl hb1
 have hM1:=HM.out w1 hB1
 have hat1:=hM1.at
 clear hb0 hb1 bq0 br0 bd0 HCk
 go_wp2_with(first | (refine uqe rfl _ _ rfl ⟨g,0,none⟩ rfl [Value.int .i64 v.st.rev,Value.slice q1 v.st.jobs.length d1,Value.slice q2 v.st.nodes.length d2,Value.slice q3 v.st.leases.length d3] _ hat1 underlying26 rfl uqg ?_))
 refine(HO.out w1 hB1).mono ?_
 rintro e w2 ⟨r1,r2,r3,e1,e2,e3,rfl,hO,hb2⟩
 have hB2:=bthen hB1 hb2
 have hO:=hO.less hB1.size
 have bq2:=bq1.bl hb2
 have br2:=br1.bl hb2
 have bd2:=bd1.bl hb2
 have hb3:=zsa w2 (.cells (stv v.st r1 r2 r3 e1 e2 e3) 26)
 have hs3:=zsb w2 (.cells (stv v.st r1 r2 r3 e1 e2 e3) 26)
 have hb4:Below w2.heap.size w2 ((w2.alloc (.cells (stv v.st r1 r2 r3 e1 e2 e3) 26)).alloc (.cells #[zse w2.heap.size,.int .i64 v.now] 174)):=hb3.alloc (by simp) _
 have hw4:WorkM ((w2.alloc (.cells (stv v.st r1 r2 r3 e1 e2 e3) 26)).alloc (.cells #[zse w2.heap.size,.int .i64 v.now] 174)) w.heap.size w2.heap.size (w2.heap.size+1) r1 r2 r3 e1 e2 e3 v.st v.now:=⟨by have:=Blk.new (w2.alloc (.cells (stv v.st r1 r2 r3 e1 e2 e3) 26)) 174 #[zse w2.heap.size,.int .i64 v.now];rwa [hs3] at this,(Blk.new w2 26 (stv v.st r1 r2 r3 e1 e2 e3)).alloc _,hO.below hb4,hB2.size,Nat.le_succ_of_le hB2.size⟩
 have hB4:=bthen hB2 hb4
 have bq4:=bq2.bl hb4
 have br4:=br2.bl hb4
 have bd4:=bd2.bl hb4
 have c4:(w2.alloc (.cells (stv v.st r1 r2 r3 e1 e2 e3) 26)).cell? ⟨g,4,none⟩=some (.int .i64 v.now):=(HM.out _ (bthen hB2 hb3)).b.cell 4
 clear hO hB1 hb2 hB2 hb4 hb3 bq1 br1 bd1 bq2 br2 bd2 hM1 hat1 HO
 go_upto_region 4 with(first | (refine uqf rfl _ _ _ rfl rfl 26 _ (stv v.st r1 r2 r3 e1 e2 e3) rfl uqg rfl (ux8 _ _ _ _ _ _ _ _ _ _) ?_))
 clear hs3 c4
 generalize w2.heap.size=gn at *
 generalize(w2.alloc _).alloc _=w4 at *
 have HDo:=zrj (wyp q w.heap.size gn (gn+1) r1 r2 r3 e1 e2 e3 v.st v.now w4 hw4 hB4.size F (fun W hW=>HT.out W (hB4.trans hW)) hq hnow)
 rw[hd] at HDo
 have z1:(((0:Nat):Int) == 0)=true:=rfl
 clear hw4
 go_wp2_with(first | (refine uqw (by rfl) _ _ rfl (w.heap.size) rfl _ _ bq4 _ underlying44 rfl uqd ?_))
 refine HDo.out.mono ?_
 rintro e w5 ⟨s1,s2,s3,f1,f2,f3,rfl,hw5,hBd,hK,hS⟩
 have hB5:=hB4.trans hBd
 have br5:=hK _ _ _ br4 (by decide) (by decide) (by decide) (by decide) (by decide)
 have bd5:=hK _ _ _ bd4 (by decide) (by decide) (by decide) (by decide) (by decide)
 have hM5:=HM.out _ hB5
 clear HDo hBd hK hS hB4 bq4 br4 bd4 hq
 go_upto_region 6 with fail
 have HSm:=zrj (fun(W:World) (hW:Below w5.heap.size w5 W)=>vka v.st s' q1 q2 q3 s1 s2 s3 d1 d2 d3 f1 f2 f3 W ((hM5.below hW).m) ((hw5.own.below hW).m) F.sz F'.sz)
 rw[hs] at HSm
 have G0:Blk w5.drew g 94 (zsh v q1 q2 q3 d1 d2 d3)/\Blk w5.drew gn 26 (stv s' s1 s2 s3 f1 f2 f3):=⟨hM5.b.drew,hw5.bn.drew⟩
 refine wp_region_held_drew (S:=fun W=>Blk W g 94 (zsh v q1 q2 q3 d1 d2 d3)/\Blk W gn 26 (stv s' s1 s2 s3 f1 f2 f3)) (by kernel_rfl) G0 (fun hHeld=>?_)
 refine tq 0 ?_
 refine tq 1 ?_
 refine tq 2 ?_
 refine tq 3 ?_
 refine tq 4 ?_
 refine tq 5 ?_
 refine tq 6 ?_
 refine tq 7 ?_
 refine tr 8 rfl (fun K hK=>?_)
 go_simp
 refine(HSm.out w5.drew (zri _ w5).drew).mono ?_
 rintro e w6 ⟨rfl,hb6⟩
 have hb56:Below w5.heap.size w5 w6:=(zri _ w5).drew.trans hb6
 have G1:Blk w6 g 94 (zsh v q1 q2 q3 d1 d2 d3)/\Blk w6 gn 26 (stv s' s1 s2 s3 f1 f2 f3):=⟨G0.1.below hb6 G0.1.lt,G0.2.below hb6 G0.2.lt⟩
 clear hb6
 refine hK.out _ _ G1 (fun hHeld=>?_)
 clear hK K
 (try simp only[Act.put,ma,mb,mc,md,me,mf])
 refine tq 9 ?_
 refine tq 10 ?_
 refine tq 11 ?_
 refine wpAnyH_done (by kernel_rfl) ?_ _
 have hB6:=bthen hB5 hb56
 have br6:=br5.bl hb56
 have bd6:=bd5.bl hb56
 have hw6:=hw5.below hb56
 have hM6:=hM5.below hb56
 clear G0 hHeld G1 HSm hb56 br5 bd5 hw5 hM5 hB5
 go_upto_region 16 with fail
 have hB7:=hB6.alloc hB6.size (.cells zdv 118)
 have br7:=br6.alloc (.cells zdv 118)
 have bd7:=bd6.alloc (.cells zdv 118)
 have bx7:=Blk.new w6 118 zdv
 have hkd:=bd6.lt
 have M7:=HM.out _ hB7
 have bw7:=hw6.bw.alloc (.cells zdv 118)
 generalize hkx:w6.heap.size=kx at *
 generalize w6.alloc _=w7 at *
 have x1:=bw7.c1
 have x2:=M7.b.c4
 have x3:w7.frozen? ⟨g,4,none⟩=false:=M7.b.frozen 4
 go_upto_region 17 with fail
 clear x1 x2 x3
 have gc:=ux4 w7 g 4 (.int .i64 now')
 have M8:=M7.setNow now'
 have g8:w.grownBy (w7.setCell ⟨g,4,none⟩ (.int .i64 now')) (some g):=GrB.then2 (uzo (some g) hB7) gc
 have br8:=GrB.blk gc br7 (br7.ne_ M7.b (by decide))
 have bd8:=GrB.blk gc bd7 (bd7.ne_ M7.b (by decide))
 have bx8:=GrB.blk gc bx7 (bx7.ne_ M7.b (by decide))
 clear gc bw7 hw6 hM6 M7 br7 bd7 bx7 br6 bd6 hB6
 generalize w7.setCell _ _=w8 at *
 have G0:Blk w8.drew g 94 #[.int .i64 v.st.rev,.slice q1 v.st.jobs.length d1,.slice q2 v.st.nodes.length d2,.slice q3 v.st.leases.length d3,.int .i64 now']/\Blk w8.drew kx 118 zdv:=⟨M8.b.drew,bx8.drew⟩
 have hr1:=br8.drew
 have hd1:=bd8.drew
 refine wp_region_held_drew (S:=fun W=>Blk W g 94 #[.int .i64 v.st.rev,.slice q1 v.st.jobs.length d1,.slice q2 v.st.nodes.length d2,.slice q3 v.st.leases.length d3,.int .i64 now']/\Blk W kx 118 zdv) (by kernel_rfl) G0 (fun hHeld=>?_)
 refine tq 0 ?_
 refine tq 1 ?_
 refine tq 2 ?_
 refine tq 3 ?_
 refine tq 4 ?_
 refine tq 5 ?_
 refine tq 6 ?_
 refine tq 7 ?_
 refine tq 8 ?_
 have G1:Blk (w8.drew.setRow (w.heap.size+1) #[.int .i64 ((0:Nat):Int),.int .i64 v.st.rev]) g 94 #[.int .i64 v.st.rev,.slice q1 v.st.jobs.length d1,.slice q2 v.st.nodes.length d2,.slice q3 v.st.leases.length d3,.int .i64 now']/\Blk (w8.drew.setRow (w.heap.size+1) #[.int .i64 ((0:Nat):Int),.int .i64 v.st.rev]) kx 118 zdv:=(⟨G0.1.far_row (G0.1.ne_ hr1 (by decide)) #[.int .i64 ((0:Nat):Int),.int .i64 v.st.rev],G0.2.far_row (G0.2.ne_ hr1 (by decide)) #[.int .i64 ((0:Nat):Int),.int .i64 v.st.rev]⟩)
 have hd2:=hd1.far_row (hd1.ne_ hr1 (by decide)) #[.int .i64 ((0:Nat):Int),.int .i64 v.st.rev]
 refine tr 9 rfl (fun K hK=>?_)
 refine uxi rfl _ _ _ rfl (w.heap.size+1) rfl _ _ #[.int .i64 ((0:Nat):Int),.int .i64 v.st.rev] hr1 rfl ujy rfl (vjx _ _) ?_
 refine hK.out _ _ G1 (fun hHeld=>?_)
 clear hK K
 (try simp only[Act.put,ma,mb,mc,md,me,mf])
 have G2:Blk ((w8.drew.setRow (w.heap.size+1) #[.int .i64 ((0:Nat):Int),.int .i64 v.st.rev]).setRow (w.heap.size+2) zdv) g 94 #[.int .i64 v.st.rev,.slice q1 v.st.jobs.length d1,.slice q2 v.st.nodes.length d2,.slice q3 v.st.leases.length d3,.int .i64 now']/\Blk ((w8.drew.setRow (w.heap.size+1) #[.int .i64 ((0:Nat):Int),.int .i64 v.st.rev]).setRow (w.heap.size+2) zdv) kx 118 zdv:=⟨G1.1.far_row (G1.1.ne_ hd2 (by decide)) zdv,G1.2.far_row (by omega) zdv⟩
 refine tr 10 rfl (fun K hK=>?_)
 refine uxi rfl _ _ _ rfl (w.heap.size+2) rfl _ _ zdv hd2 rfl uqv rfl (ukj _ _ _ _ _ _ _ _ _ _ _ _ _ _ _ _ _ _ _ _) ?_
 refine hK.out _ _ G2 (fun hHeld=>?_)
 clear hK K
 (try simp only[Act.put,ma,mb,mc,md,me,mf])
 refine tq 11 ?_
 refine wpAnyH_done (by kernel_rfl) ?_ _
 have hr3:=(hr1.setRow #[.int .i64 ((0:Nat):Int),.int .i64 v.st.rev]).far_row ((hr1.setRow #[.int .i64 ((0:Nat):Int),.int .i64 v.st.rev]).ne_ hd2 (by decide)) zdv
 have hd3:=hd2.setRow zdv
 go_wp2_with fail
 refine bodyPost_ret (uvh rfl _ rfl hr3 underlying115 rfl ujy rfl hd3 underlying118 rfl uqv) rfl ?_
 obtain⟨m1,m2⟩:=vz5 (c1:=#[.int .i64 ((0:Nat):Int),.int .i64 v.st.rev]) (c2:=zdv) ⟨q1,q2,q3,d1,d2,d3,M8⟩ g8 (by omega) (by omega) br8 bd8 (by decide) (by decide) (by omega)
 refine⟨none,none,none,none,none,none,0,0,0,0,0,0,?_,m1,m2,DelOwn.nil0 _ _⟩
 rfl
end Go.Proofs.YtknmnhleicakhaaGreatDoor
