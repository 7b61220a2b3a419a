/- Lemmas.
-/
import Derived.Test.YtknmnhleicakhaaGreatDoorPtDoA
set_option linter.all false
set_option maxHeartbeats 16000000
set_option maxRecDepth 100000
namespace Go.Proofs.YtknmnhleicakhaaGreatDoor
open Go.Proofs.Tryz
open Go.RowKit
theorem xvh {l:List JobD} {nm:Zba}:(jobAt l nm).isSome=hasL JobD.name l nm:=by
 unfold jobAt hasL
 induction l with
 | nil=>rfl
 | cons x r ih =>
  rw[List.find?_cons,List.any_cons,<- ih]
  cases decide (x.name=nm) <;> rfl
theorem xvc (l:uqb) (base gn gw:Nat) (q1 q2 q3:Zoa) (d1 d2 d3:Nat) (s:St) (now:Int) (w:World) (hM:WorkM w base gn gw q1 q2 q3 d1 d2 d3 s now) (hbw:base<=w.heap.size) (F:Fine s) (hT:∀W,Below base w W->Tabs W) :
  Calls prog 115 #[zse gw,.agg (rwL l)] w fun e w'=>vxv w base gn gw (⟨(uja s now l).1,now⟩,(uja s now l).2) e w':=by
 have hb0:=zsa w (.cells (rwL l) 42)
 have bl0:=Blk.new w 42 (rwL l)
 have hM0:=hM.below hb0
 have hB0:Below base w (w.alloc (.cells (rwL l) 42)):=hb0.mono hbw
 have hK0:=Kp.below hb0
 have hS0:=hb0.size
 have hbw0:=zrc hbw hb0.size
 have HPJ:=zrj (fun(W:World) (hM:WorkM W base gn gw q1 q2 q3 d1 d2 d3 s now)=>uyf l.job q1 d1 s.jobs W hM.own.j.elts F.sj (by have:=F.nj;omega))
 have HPN:=zrj (fun(W:World) (hM:WorkM W base gn gw q1 q2 q3 d1 d2 d3 s now)=>uyh l.node q2 d2 s.nodes W hM.own.n.elts F.sn (by have:=F.nn;omega))
 have HPL:=zrj (fun(W:World) (hM:WorkM W base gn gw q1 q2 q3 d1 d2 d3 s now)=>uyg l.job q3 d3 s.leases W hM.own.l.elts F.sl (by have:=F.nl;omega))
 have HT:=zrj hT
 have HF:=zrj F
 have hjs:=xvh (l:=s.jobs) (nm:=l.job)
 have hgw:uja s now l=match jobAt s.jobs l.job with
  | none=>(s,6)
  | some j =>
   if hasL NodeD.name s.nodes l.node=false then(s,6) else
   if hasL uqb.job s.leases l.job=true then(s,7) else
   if l.till<=now then(s,1) else
   if j.tries=100 then(s,2) else
   ({ s with jobs:=s.jobs.set (posL JobD.name s.jobs l.job) (uwd j),leases:=putL uqb.job s.leases l },uqp { s with jobs:=s.jobs.set (posL JobD.name s.jobs l.job) (uwd j),leases:=putL uqb.job s.leases l }):=rfl
 have hat:=fun h=>vqa (key:=JobD.name) F.sj (s:=l.job) h
 have hju:∀x,x∈s.jobs->x.name=l.job->some x=jobAt s.jobs l.job:=fun x h1 h2=>by rw[<- h2];exact(vv6 F.sj h1).symm
 have hfar:d3≠0->∀a,q3=some a->a.block≠w.heap.size:=fun hc a ha hb=>by
  obtain⟨g,cur,h1,_,h2,_⟩:=Own.at_ hM.own.l (by omega)
  rw[ha] at h1;injection h1 with h1;subst h1;exact absurd hb (Nat.ne_of_lt h2)
 have HAT:=zrj hat
 have HJU:=zrj hju
 have HGW:=zrj hgw
 have HJS:=zrj hjs
 clear hM hb0 hT F hgw hjs hat hju
 go_enter func115,ntmps115
 go_upto_region 1 with fail
 generalize w.alloc _=w0 at *
 have G0:Blk w0.drew gw 174 #[zse gn,.int .i64 now]/\Blk w0.drew gn 26 #[.int .i64 s.rev,.slice q1 s.jobs.length d1,.slice q2 s.nodes.length d2,.slice q3 s.leases.length d3]/\Blk w0.drew w.heap.size 42 (rwL l):=⟨hM0.bw.drew,hM0.bn.drew,bl0.drew⟩
 refine wp_region_held_drew (S:=fun W=>Blk W gw 174 #[zse gn,.int .i64 now]/\Blk W gn 26 #[.int .i64 s.rev,.slice q1 s.jobs.length d1,.slice q2 s.nodes.length d2,.slice q3 s.leases.length d3]/\Blk W w.heap.size 42 (rwL l)) (by kernel_rfl) G0 (fun hHeld=>?_)
 refine tq 0 ?_
 refine tq 1 ?_
 refine tq 2 ?_
 refine tq 3 ?_
 refine tq 4 ?_
 refine tq 5 ?_
 refine tq 6 ?_
 refine tq 7 ?_
 refine tq 8 ?_
 refine tr 9 rfl (fun K hK=>?_)
 go_simp
 refine(HPJ.out w0.drew (hM0.below ((zri _ w0).drew))).mono ?_
 rintro e w1 ⟨rfl,hb1⟩
 have hb1:Below w0.heap.size w0 w1:=((zri _ w0).drew).trans (hb1.mono (zra _))
 have hM1:=hM0.below hb1
 have bl1:=bl0.bl hb1
 refine hK.out _ _ (⟨hM1.bw,hM1.bn,bl1⟩) (fun hHeld=>?_)
 clear hK K
 (try simp only[Act.put,ma,mb,mc,md,me,mf])
 refine tq 10 ?_
 refine tq 11 ?_
 refine tq 12 ?_
 refine tq 13 ?_
 refine tq 14 ?_
 refine wpAnyH_done (by kernel_rfl) ?_ _
 have hB1:=hB0.trans (hb1.mono hbw0)
 have hK1:=hK0.trans (Kp.below hb1)
 have hS1:=zrc hS0 hb1.size
 have hbw1:=zrc hbw0 hb1.size
 clear hM0 bl0 hB0 hK0 hS0 hb1 G0 hbw0
 go_upto_region 2 with fail
 have G1:Blk w1.drew gw 174 #[zse gn,.int .i64 now]/\Blk w1.drew gn 26 #[.int .i64 s.rev,.slice q1 s.jobs.length d1,.slice q2 s.nodes.length d2,.slice q3 s.leases.length d3]/\Blk w1.drew w.heap.size 42 (rwL l):=⟨hM1.bw.drew,hM1.bn.drew,bl1.drew⟩
 refine wp_region_held_drew (S:=fun W=>Blk W gw 174 #[zse gn,.int .i64 now]/\Blk W gn 26 #[.int .i64 s.rev,.slice q1 s.jobs.length d1,.slice q2 s.nodes.length d2,.slice q3 s.leases.length d3]/\Blk W w.heap.size 42 (rwL l)) (by kernel_rfl) G1 (fun hHeld=>?_)
 refine tq 0 ?_
 refine tq 1 ?_
 refine tq 2 ?_
 refine tq 3 ?_
 refine tq 4 ?_
 refine tq 5 ?_
 refine tq 6 ?_
 refine tq 7 ?_
 refine tq 8 ?_
 refine tr 9 rfl (fun K hK=>?_)
 go_simp
 refine(HPN.out w1.drew (hM1.below ((zri _ w1).drew))).mono ?_
 rintro e w2 ⟨rfl,hb2⟩
 have hb2:Below w1.heap.size w1 w2:=((zri _ w1).drew).trans (hb2.mono (zra _))
 have hM2:=hM1.below hb2
 have bl2:=bl1.bl hb2
 refine hK.out _ _ (⟨hM2.bw,hM2.bn,bl2⟩) (fun hHeld=>?_)
 clear hK K
 (try simp only[Act.put,ma,mb,mc,md,me,mf])
 refine tq 10 ?_
 refine tq 11 ?_
 refine tq 12 ?_
 refine tq 13 ?_
 refine tq 14 ?_
 refine wpAnyH_done (by kernel_rfl) ?_ _
 have hB2:=hB1.trans (hb2.mono hbw1)
 have hK2:=hK1.trans (Kp.below hb2)
 have hS2:=zrc hS1 hb2.size
 have hbw2:=zrc hbw1 hb2.size
 clear hM1 bl1 hB1 hK1 hS1 hb2 G1 hbw1
 cases hj:hasL JobD.name s.jobs l.job
 ·have hg:uja s now l=(s,6):=by
   rw[HGW.out]
   cases hx:jobAt s.jobs l.job with
   | none=>rfl
   | some j=>have:=HJS.out;rw[hx,hj] at this;cases this
  have HG:=zrj hg
  clear hg HGW HJS HAT HJU
  go_wp2_with fail
  go_ret
  refine⟨q1,q2,q3,d1,d2,d3,?_⟩
  rw[HG.out]
  exact⟨rfl,hM2,hB2,hK2,hS2⟩
 ·obtain⟨j,hjat,hjn⟩:=HAT.out hj
  have hjo:jobAt s.jobs l.job=some j:=by
   have:=HJU.out j (List.mem_of_getElem? hjat) hjn
   exact this.symm
  have hgw:=HGW.out
  rw[hjo] at hgw
  simp only at hgw
  clear HGW HJS HAT HJU hjo hjn
  cases hn:hasL NodeD.name s.nodes l.node
  ·rw[hn,if_pos rfl] at hgw
   have HG:=zrj hgw
   clear hgw hjat
   go_wp2_with fail
   go_ret
   refine⟨q1,q2,q3,d1,d2,d3,?_⟩
   rw[HG.out]
   exact⟨rfl,hM2,hB2,hK2,hS2⟩
  ·rw[hn,if_neg (by simp)] at hgw
   have HGW:=zrj hgw
   have HJA:=zrj hjat
   clear hgw hjat
   go_upto_region 5 with fail
   have G2:Blk w2.drew gw 174 #[zse gn,.int .i64 now]/\Blk w2.drew gn 26 #[.int .i64 s.rev,.slice q1 s.jobs.length d1,.slice q2 s.nodes.length d2,.slice q3 s.leases.length d3]/\Blk w2.drew w.heap.size 42 (rwL l):=⟨hM2.bw.drew,hM2.bn.drew,bl2.drew⟩
   refine wp_region_held_drew (S:=fun W=>Blk W gw 174 #[zse gn,.int .i64 now]/\Blk W gn 26 #[.int .i64 s.rev,.slice q1 s.jobs.length d1,.slice q2 s.nodes.length d2,.slice q3 s.leases.length d3]/\Blk W w.heap.size 42 (rwL l)) (by kernel_rfl) G2 (fun hHeld=>?_)
   refine tq 0 ?_
   refine tq 1 ?_
   refine tq 2 ?_
   refine tq 3 ?_
   refine tq 4 ?_
   refine tq 5 ?_
   refine tq 6 ?_
   refine tq 7 ?_
   refine tq 8 ?_
   refine tr 9 rfl (fun K hK=>?_)
   go_simp
   refine(HPL.out w2.drew (hM2.below ((zri _ w2).drew))).mono ?_
   rintro e w3 ⟨rfl,hb3⟩
   have hb3:Below w2.heap.size w2 w3:=((zri _ w2).drew).trans (hb3.mono (zra _))
   have hM3:=hM2.below hb3
   have bl3:=bl2.bl hb3
   refine hK.out _ _ (⟨hM3.bw,hM3.bn,bl3⟩) (fun hHeld=>?_)
   clear hK K
   (try simp only[Act.put,ma,mb,mc,md,me,mf])
   refine tq 10 ?_
   refine tq 11 ?_
   refine tq 12 ?_
   refine tq 13 ?_
   refine tq 14 ?_
   refine wpAnyH_done (by kernel_rfl) ?_ _
   have hB3:=hB2.trans (hb3.mono hbw2)
   have hK3:=hK2.trans (Kp.below hb3)
   have hS3:=zrc hS2 hb3.size
   have hbw3:=zrc hbw2 hb3.size
   clear hM2 bl2 hB2 hK2 hS2 hb3 G2 hbw2
   cases hl:hasL uqb.job s.leases l.job
   rotate_left
   ·have hg:=HGW.out
    rw[hl,if_pos rfl] at hg
    have HG:=zrj hg
    clear hg HGW
    go_wp2_with fail
    go_ret
    refine⟨q1,q2,q3,d1,d2,d3,?_⟩
    rw[HG.out]
    exact⟨rfl,hM3,hB3,hK3,hS3⟩
   ·have hgw:=HGW.out
    rw[hl,if_neg (by simp)] at hgw
    clear HGW hl
    go_upto_region 8 with fail
    have v0:=bl3.c2
    have v1:=hM3.bw.c1
    have HGW:=zrj hgw
    clear hgw
    cases ht:decide (l.till<=now)
    rotate_left
    ·have hg:=HGW.out
     rw[if_pos (of_decide_eq_true ht)] at hg
     have HG:=zrj hg
     clear hg HGW
     go_big_quiet (fail)
     go_wp2_with fail
     go_ret
     have hbn:Below w3.heap.size w3 (w3.drewN nq):=⟨rfl,rfl,rfl,zra _,fun _ _=>rfl⟩
     refine⟨q1,q2,q3,d1,d2,d3,?_⟩
     rw[HG.out]
     exact⟨rfl,hM3.below hbn,hB3.trans (hbn.mono hbw3),hK3.trans (Kp.below hbn),hS3⟩
    ·have hgw:=HGW.out
     rw[if_neg (of_decide_eq_false ht)] at hgw
     have HGW:=zrj hgw
     clear hgw
     go_big_quiet (fail)
     go_upto_region 10 with fail
     clear v0 v1 ht
     have hbn:Below w3.heap.size w3 (w3.drewN nq):=⟨rfl,rfl,rfl,zra _,fun _ _=>rfl⟩
     have hM4:=hM3.below hbn
     have bl4:=bl3.bl hbn
     have hB4:=hB3.trans (hbn.mono hbw3)
     have hK4:=hK3.trans (Kp.below hbn)
     have hS4:=zrc hS3 hbn.size
     have hbw4:=zrc hbw3 hbn.size
     clear hM3 bl3 hB3 hK3 hS3 hbw3 hbn
     generalize w3.drewN nq=w4 at *
     have hk:=(List.getElem?_eq_some_iff.1 HJA.out).1
     have hoj:=hM4.own.j
     obtain⟨g,cur,rfl,hbg,bg,hcs,_⟩:=hoj.where_ (by rw[zre];omega)
     obtain⟨c0,c1⟩:=Own.cellAt hoj (k:=posL JobD.name s.jobs l.job) (j:=3) (r:=rowJ j) (v:=.int .i64 j.tries) (by rw[zrg,HJA.out];rfl) rfl
     have v0:=hM4.bw.c0
     have v1:=hM4.bn.c1
     have hjf:=HF.out.j j (List.mem_of_getElem? HJA.out)
     have htr:=(uwu.1 hjf).2.2.2
     have hsz:=sz_grant HF.out (l:=l) HJA.out
     have HSZ:=zrj hsz
     clear hjf hsz hoj hcs
     generalize hkk:posL JobD.name s.jobs l.job=k at *
     have u0:(0:Int)<=(k:Int):=by omega
     have u1:(k:Int)<(s.jobs.length:Int):=by omega
     have u2:IntKind.i64.wrap (j.tries+1)=j.tries+1:=IntWalk.i64_in _ (by omega)
     cases hx:(j.tries == (100:Int))
     rotate_left
     ·have hg:=HGW.out
      rw[if_pos (by simpa using hx)] at hg
      have HG:=zrj hg
      clear hg HGW
      go_wp2_with fail
      go_ret
      refine⟨some ⟨g,0,none⟩,q2,q3,d1,d2,d3,?_⟩
      rw[HG.out]
      exact⟨rfl,hM4,hB4,hK4,hS4⟩
     ·have hgw:=HGW.out
      rw[if_neg (by simpa using hx)] at hgw
      have HG:=zrj hgw
      clear hgw HGW
      go_upto_region 13 with fail
      clear v0 v1 hx
      have hset:=StOwn.setJ hM4.own (k:=k) (x:=j) HJA.out 3 (uwd j) (.int .i64 (j.tries+1)) (by decide) rfl
      have hkeep:=fun(b:Nat) (t:TypeId) (cs:Array Value) (hb:Blk w4 b t cs) (ht:38 ≠ t)=>(StOwn.keepJ hM4.own (by omega) hb ht (k*5+3) (.int .i64 (j.tries+1))).1
      have hM5:WorkM (w4.setCell ⟨g,k*5+3,none⟩ (.int .i64 (j.tries+1))) base gn gw (some ⟨g,0,none⟩) q2 q3 d1 d2 d3 { s with jobs:=s.jobs.set k (uwd j) } now:=⟨hkeep _ _ _ hM4.bw (by decide),by have:=hkeep _ _ _ hM4.bn (by decide);unfold stv at this ⊢;simpa using this,hset,hM4.hn,hM4.hw⟩
      have bl5:=hkeep _ _ _ bl4 (by decide)
      have hB5:Below base w (w4.setCell ⟨g,k*5+3,none⟩ (.int .i64 (j.tries+1))):=hB4.setCell (p:=⟨g,k*5+3,none⟩) hbg _
      have hK5:=hK4.trans (Kp.cell bg (by simp) (k*5+3) (.int .i64 (j.tries+1)))
      have hS5:w.heap.size<=(w4.setCell ⟨g,k*5+3,none⟩ (.int .i64 (j.tries+1))).heap.size:=by rw[World.size_setCell];exact hS4
      have hbw5:base<=(w4.setCell ⟨g,k*5+3,none⟩ (.int .i64 (j.tries+1))).heap.size:=by rw[World.size_setCell];exact hbw4
      clear hset hkeep hM4 bl4 hB4 hK4 hS4 hbw4 bg c0 c1
      generalize w4.setCell _ _=w5 at *
      have HPU:=zrj (fun(W:World) (hO:Own W base 42 3 q3 d3 (s.leases.map rowL)) (hb:base<=W.heap.size)=>xwh s.leases l base q3 d3 W hO hb HF.out.sl (by have:=HF.out.nl;omega))
      have G5:Blk w5.drew gw 174 #[zse gn,.int .i64 now]/\Blk w5.drew w.heap.size 42 (rwL l):=⟨hM5.bw.drew,bl5.drew⟩
      have y0:w5.drew.cell? ⟨gn,3,none⟩=some (.slice q3 s.leases.length d3):=hM5.bn.cell 3
      refine wp_region_held_drew (S:=fun W=>Blk W gw 174 #[zse gn,.int .i64 now]/\Blk W w.heap.size 42 (rwL l)) (by kernel_rfl) G5 (fun hHeld=>?_)
      refine tq 0 ?_
      refine tq 1 ?_
      refine tq 2 ?_
      refine tq 3 ?_
      refine tq 4 ?_
      refine tq 5 ?_
      refine tq 6 ?_
      refine tq 7 ?_
      refine tq 8 ?_
      refine tq 9 ?_
      refine tq 11 ?_
      refine tr 10 rfl (fun K hK=>?_)
      go_simp
      refine hK.out _ _ G5 (fun hHeld=>?_)
      clear hK K
      (try simp only[Act.put,ma,mb,mc,md,me,mf])
      refine tr 12 rfl (fun K hK=>?_)
      go_simp
      refine(HPU.out w5.drew (hM5.below ((zri _ w5).drew)).own.l hbw5).mono ?_
      rintro e w6 ⟨p',c',rfl,hO,hTc,hkp⟩
      have G6:Blk w6 gw 174 #[zse gn,.int .i64 now]/\Blk w6 w.heap.size 42 (rwL l):=⟨hTc.blk G5.1 (by decide),hkp _ _ _ G5.2 hfar⟩
      have bn6:=hTc.blk hM5.bn.drew (by decide)
      have y1:=bn6.c3
      have y2:w6.frozen? ⟨gn,3,none⟩=false:=bn6.frozen 3
      refine hK.out _ _ G6 (fun hHeld=>?_)
      clear hK K
      (try simp only[Act.put,ma,mb,mc,md,me,mf])
      refine tq 13 ?_
      refine tq 14 ?_
      have n1:=G6.1.ne_ bn6 (by decide)
      have n2:=G6.2.ne_ bn6 (by decide)
      have G7:Blk (w6.setCell ⟨gn,3,none⟩ (.slice p' (putL uqb.job s.leases l).length c')) gw 174 #[zse gn,.int .i64 now]/\Blk (w6.setCell ⟨gn,3,none⟩ (.slice p' (putL uqb.job s.leases l).length c')) w.heap.size 42 (rwL l):=⟨G6.1.far (p:=⟨gn,3,none⟩) n1 _,G6.2.far (p:=⟨gn,3,none⟩) n2 _⟩
      refine tr 15 rfl (fun K hK=>?_)
      go_simp
      refine hK.out _ _ G7 (fun hHeld=>?_)
      clear hK K
      (try simp only[Act.put,ma,mb,mc,md,me,mf])
      refine wpAnyH_done (by kernel_rfl) ?_ _
      have hTc:=Tch.after ((zri _ w5).drew) hTc
      have hM7:=hM5.setL hTc hO
      have hK7:=hK5.trans ((Kp.tchL hTc).trans (Kp.cell bn6 (by simp) 3 (.slice p' (putL uqb.job s.leases l).length c')))
      have hB7:Below base w (w6.setCell ⟨gn,3,none⟩ (.slice p' (putL uqb.job s.leases l).length c')):=(hTc.low hB5 hbw5).setCell (p:=⟨gn,3,none⟩) hM5.hn _
      have hS7:w.heap.size<=(w6.setCell ⟨gn,3,none⟩ (.slice p' (putL uqb.job s.leases l).length c')).heap.size:=by have:=vxu hTc;rw[World.size_setCell];omega
      generalize w6.setCell _ _=w7 at *
      have hC:=uxw { s with jobs:=s.jobs.set k (uwd j),leases:=putL uqb.job s.leases l } (some ⟨g,0,none⟩) q2 p' d1 d2 c' w7 hM7.own.m HSZ.out (HT.out w7 hB7)
      unfold stv at hC
      have bn7:Blk w7 gn 26 #[.int .i64 s.rev,.slice (some ⟨g,0,none⟩) (s.jobs.set k (uwd j)).length d1,.slice q2 s.nodes.length d2,.slice p' (putL uqb.job s.leases l).length c']:=hM7.bn
      have z1:=G7.1.c0
      have HC:=zrj hC
      have HM:=zrj hM7
      clear hC hM7 hM5 hTc hO bn6 G5 G6 n1 n2 y0 y1 y2
      iterate 8 (try clear hHeld)
      clear HPJ HPN HPL HPU HJA hkk hk u0 u1 u2 htr hbg hb1 hb2 hb3
      generalize hnj:(s.jobs.set k (uwd j)).length=nj at bn7 HC
      clear hnj
      go_wp2_with(first | (refine uqw (by rfl) _ _ rfl gn rfl _ _ bn7 _ underlying26 rfl uqg ?_))
      refine HC.out.mono ?_
      rintro e w8 ⟨rfl,hb8⟩
      go_wp2_with fail
      go_ret
      refine⟨some ⟨g,0,none⟩,q2,p',d1,d2,c',?_⟩
      rw[HG.out]
      exact⟨rfl,HM.out.below hb8,hB7.trans (hb8.mono (zrc hbw hS7)),hK7.trans (Kp.below hb8),zrc hS7 hb8.size⟩
theorem do_grant (q:ReqD) (base gn gw:Nat) (q1 q2 q3:Zoa) (d1 d2 d3:Nat) (s:St) (now:Int) (w:World) (hM:WorkM w base gn gw q1 q2 q3 d1 d2 d3 s now) (hbw:base<=w.heap.size) (F:Fine s) (hT:∀W,Below base w W->Tabs W) (hq:reqE q=0) (hkind:q.kind=5) :
  Calls prog 71 #[zse gw,.agg (qv q)] w fun e w'=>vxv w base gn gw (doW ⟨s,now⟩ q) e w':=by
 have hD:doW ⟨s,now⟩ q=(⟨(uja s now q.lease).1,now⟩,(uja s now q.lease).2):=by unfold doW;simp[hkind]
 have HD:=zrj hD
 have HG:=zrj (fun(W:World) (hM:WorkM W base gn gw q1 q2 q3 d1 d2 d3 s now) (hb:base<=W.heap.size) (hB:Below base w W)=>xvc q.lease base gn gw q1 q2 q3 d1 d2 d3 s now W hM hb F (fun W' h=>hT W' (hB.trans h)))
 have hb0:Below w.heap.size w ((w.alloc (.cells #[zse gw] 172)).alloc (.cells (qv q) 44)):=((zri _ _).alloc (zra _) _).alloc (by simp) _
 have hs1:=zsb w (.cells #[zse gw] 172)
 have bb:=(Blk.new w 172 #[zse gw]).alloc (.cells (qv q) 44)
 have bq:Blk ((w.alloc (.cells #[zse gw] 172)).alloc (.cells (qv q) 44)) (w.heap.size+1) 44 (qv q):=by have:=Blk.new (w.alloc (.cells #[zse gw] 172)) 44 (qv q);rwa [hs1] at this
 have hM0:=hM.below hb0
 have hbw0:=zrc hbw hb0.size
 have hB0:Below base w ((w.alloc (.cells #[zse gw] 172)).alloc (.cells (qv q) 44)):=hb0.mono hbw
 have hK0:=Kp.below hb0
 have hS0:=hb0.size
 clear hM hb0 hs1
 have kk1:=zsc hkind 1
 have kk2:=zsc hkind 2
 have kk3:=zsc hkind 3
 have kk4:=zsc hkind 4
 have kk5:=zsd hkind 5
 clear hkind hq hD hT F
 go_enter func71,ntmps71
 go_upto_region 1 with fail
 generalize(w.alloc _).alloc _=w0 at *
 have x0:=bq.c0
 have hat:At w0 ⟨w.heap.size+1,9,none⟩ (rlL q.lease):=fun j v hv=>by
  rcases j with _ | _ | _ | j
  ·injection hv with hv;subst hv;exact bq.cell 9
  ·injection hv with hv;subst hv;exact bq.cell 10
  ·injection hv with hv;subst hv;exact bq.cell 11
  ·cases hv
 have HC:=zrj (HG.out w0 hM0 hbw0 hB0)
 have y0:=bb.c0
 clear hM0 bb bq HG
 go_wp2_with(first | (refine uqe rfl _ _ rfl ⟨w.heap.size+1,9,none⟩ rfl (rlL q.lease) _ hat underlying42 rfl uqj ?_))
 refine HC.out.mono ?_
 rintro e w1 ⟨q1',q2',q3',d1',d2',d3',rfl,hM1,hB1,hK1,hS1⟩
 go_wp2_with fail
 go_ret
 refine⟨q1',q2',q3',d1',d2',d3',?_⟩
 rw[HD.out]
 exact⟨rfl,hM1,hB0.trans hB1,hK0.trans hK1,zrc hS0 hS1⟩
theorem wyp (q:ReqD) (base gn gw:Nat) (q1 q2 q3:Zoa) (d1 d2 d3:Nat) (s:St) (now:Int) (w:World) (hM:WorkM w base gn gw q1 q2 q3 d1 d2 d3 s now) (hbw:base<=w.heap.size) (F:Fine s) (hT:∀W,Below base w W->Tabs W) (hq:reqE q=0) (hnow:0<=now/\now<=1099511627776) :
  Calls prog 71 #[zse gw,.agg (qv q)] w fun e w'=>vxv w base gn gw (doW ⟨s,now⟩ q) e w':=by
 have hk:=(vwk hq).1
 by_cases h1:q.kind=1
 ·exact do_putJ q base gn gw q1 q2 q3 d1 d2 d3 s now w hM hbw F hT hq h1
 by_cases h2:q.kind=2
 ·exact do_putN q base gn gw q1 q2 q3 d1 d2 d3 s now w hM hbw F hT hq h2
 by_cases h3:q.kind=3
 ·exact do_delJ q base gn gw q1 q2 q3 d1 d2 d3 s now w hM hbw F hT hq h3
 by_cases h4:q.kind=4
 ·exact do_delN q base gn gw q1 q2 q3 d1 d2 d3 s now w hM hbw F hT hq h4
 by_cases h5:q.kind=5
 ·exact do_grant q base gn gw q1 q2 q3 d1 d2 d3 s now w hM hbw F hT hq h5
 by_cases h6:q.kind=6
 ·exact do_free q base gn gw q1 q2 q3 d1 d2 d3 s now w hM hbw F hT hq h6
 by_cases h7:q.kind=7
 ·exact do_tick q base gn gw q1 q2 q3 d1 d2 d3 s now w hM hbw F hT hq h7 hnow
 exact do_asks q base gn gw q1 q2 q3 d1 d2 d3 s now w hM hbw F hT hq (by omega)
end Go.Proofs.YtknmnhleicakhaaGreatDoor
