/- Lemmas.
-/
import Derived.Test.YtknmnhleicakhaaGreatDoorPtReqA
set_option linter.all false
set_option maxHeartbeats 16000000
set_option maxRecDepth 100000
namespace Go.Proofs.YtknmnhleicakhaaGreatDoor
open Go.Proofs.Tryz
open Go.RowKit
structure ReqSz (q:ReqD):Prop where
 jn:q.job.name.size<=9223372036854775807
 jt:q.job.tag.size<=9223372036854775807
 nn:q.node.name.size<=9223372036854775807
 nz:q.node.zone.size<=9223372036854775807
 lj:q.lease.job.size<=9223372036854775807
 ln:q.lease.node.size<=9223372036854775807
 nm:q.name.size<=9223372036854775807
theorem xqg (q:ReqD) (hkind:q.kind=8) (w:World) :
  Calls prog 39 #[.agg (qv q)] w fun e w'=>e=.returned (.iface 159 (.agg #[]))/\Below w.heap.size w w':=by
 have hb0:=zsa w (.cells (qv q) 44)
 have bq:=Blk.new w 44 (qv q)
 have kk1:=zsc hkind 1
 have kk2:=zsc hkind 2
 have kk5:=zsc hkind 5
 have kk3:=zsc hkind 3
 have kk4:=zsc hkind 4
 have kk6:=zsc hkind 6
 have kk7:=zsc hkind 7
 have kk8:=zsd hkind 8
 have kk9:=zsc hkind 9
 clear hkind
 go_enter func39,ntmps39
 go_upto_region 1 with fail
 generalize w.alloc _=w0 at *
 have c0:=bq.c0
 go_wp2_with fail
 go_ret
 exact⟨rfl,hb0⟩
theorem xqh (q:ReqD) (hkind:q.kind=9) (w:World) :
  Calls prog 39 #[.agg (qv q)] w fun e w'=>e=.returned (.iface 159 (.agg #[]))/\Below w.heap.size w w':=by
 have hb0:=zsa w (.cells (qv q) 44)
 have bq:=Blk.new w 44 (qv q)
 have kk1:=zsc hkind 1
 have kk2:=zsc hkind 2
 have kk5:=zsc hkind 5
 have kk3:=zsc hkind 3
 have kk4:=zsc hkind 4
 have kk6:=zsc hkind 6
 have kk7:=zsc hkind 7
 have kk8:=zsc hkind 8
 have kk9:=zsd hkind 9
 clear hkind
 go_enter func39,ntmps39
 go_upto_region 1 with fail
 generalize w.alloc _=w0 at *
 have c0:=bq.c0
 go_wp2_with fail
 go_ret
 exact⟨rfl,hb0⟩
theorem vyv (q:ReqD) (hkind:¬(1<=q.kind/\q.kind<=9)) (w:World) :
  Calls prog 39 #[.agg (qv q)] w fun e w'=>e=.returned .nilIface/\Below w.heap.size w w':=by
 have hb0:=zsa w (.cells (qv q) 44)
 have bq:=Blk.new w 44 (qv q)
 have kk1:(q.kind == (1:Int))=false:=by rw[zrf];omega
 have kk2:(q.kind == (2:Int))=false:=by rw[zrf];omega
 have kk5:(q.kind == (5:Int))=false:=by rw[zrf];omega
 have kk3:(q.kind == (3:Int))=false:=by rw[zrf];omega
 have kk4:(q.kind == (4:Int))=false:=by rw[zrf];omega
 have kk6:(q.kind == (6:Int))=false:=by rw[zrf];omega
 have kk7:(q.kind == (7:Int))=false:=by rw[zrf];omega
 have kk8:(q.kind == (8:Int))=false:=by rw[zrf];omega
 have kk9:(q.kind == (9:Int))=false:=by rw[zrf];omega
 clear hkind
 go_enter func39,ntmps39
 go_upto_region 1 with fail
 generalize w.alloc _=w0 at *
 have c0:=bq.c0
 go_wp2_with fail
 go_ret
 exact⟨rfl,hb0⟩
theorem wj7 (q:ReqD) (w:World) (HS:ReqSz q) (hT:Tabs w) (hkind:q.kind=1) :
  Calls prog 37 #[.agg (qv q)] w fun e w'=>e=.returned (.int .i64 ((reqE q:Nat):Int))/\Below w.heap.size w w':=by
 have hw:uz2 q=⟨q.kind,q.job,noN,noL,ByteArray.empty,0⟩:=by unfold uz2;simp[hkind]
 have hp:partE q=jobE q.job:=by unfold partE;simp[hkind]
 have hR:reqE q=if decide ((⟨q.kind,q.job,noN,noL,ByteArray.empty,0⟩:ReqD)=q)=true then jobE q.job else 4:=by
  unfold reqE
  rw[if_pos (by omega),hw,hp]
  by_cases h:(⟨q.kind,q.job,noN,noL,ByteArray.empty,0⟩:ReqD)=q <;> simp[h]
 have HP:=zrj (fun(W:World)=>wwg q hkind W)
 have HW:=zrj (fun(W:World) (g:Nat) (bg:Blk W g 147 (rwJ q.job))=>wholeJ q.kind q.job g W bg)
 have HC:=zrj (fun(W:World) (g:Nat) (bg:Blk W g 147 (rwJ q.job)) (hW:Below w.heap.size w W)=>checkJ q.job g W bg HS.jn HS.jt (hT.below hW))
 have hE:=eqInQ ⟨q.kind,q.job,noN,noL,ByteArray.empty,0⟩ q
 have hE2:=vxe
 generalize hbb:decide ((⟨q.kind,q.job,noN,noL,ByteArray.empty,0⟩:ReqD)=q)=b at *
 dsimp only[noJ,noN,noL] at hE
 have HR:=zrj hR
 clear hkind hw hp hR hT HS hbb
 have hb0:=zsa w (.cells (qv q) 44)
 have bq0:=Blk.new w 44 (qv q)
 go_enter func37,ntmps37
 go_upto_region 1 with fail
 generalize w.alloc _=w0 at *
 go_wp2_with(first | (refine uqa rfl _ _ rfl w.heap.size rfl _ _ bq0 _ underlying44 rfl uqd ?_))
 refine(HP.out w0).mono ?_
 rintro e w1 ⟨g,rfl,hg,bg1,hb1⟩
 have hB1:=bthen hb0 hb1
 have bq1:=bq0.bl hb1
 clear hb1 hb0 bq0 hg
 go_upto_region 4 with fail
 cases b
 ·have G0:Blk w1.drew w.heap.size 44 (qv q)/\Blk w1.drew g 147 (rwJ q.job):=⟨bq1.drew,bg1.drew⟩
  refine wp_region_held_drew (S:=fun W=>Blk W w.heap.size 44 (qv q)/\Blk W g 147 (rwJ q.job)) (by kernel_rfl) G0 (fun hHeld=>?_)
  refine tq 0 ?_
  refine tq 1 ?_
  refine tq 2 ?_
  refine tq 4 ?_
  refine tr 3 rfl (fun K hK=>?_)
  go_simp
  refine(HW.out w1.drew g G0.2).mono ?_
  rintro e w2 ⟨rfl,hb2⟩
  have hB2:=hB1.trans (((zri _ w1).drew.trans (hb2.mono (zra _))).mono hB1.size)
  have G1:Blk w2 w.heap.size 44 (qv q)/\Blk w2 g 147 (rwJ q.job):=⟨G0.1.below hb2 G0.1.lt,G0.2.below hb2 G0.2.lt⟩
  clear hb2 hB1
  refine hK.out _ _ G1 (fun hHeld=>?_)
  clear hK K
  (try simp only[Act.put,ma,mb,mc,md,me,mf])
  refine tq 5 ?_
  refine tq 6 ?_
  refine wpAnyH_done (by kernel_rfl) ?_ _
  obtain⟨bq2,bg2⟩:=G1
  clear G0 hHeld bq1 bg1
  go_wp2_with fail
  go_ret
  refine⟨?_,hB2⟩
  rw[HR.out,if_neg (by simp)]
  rfl
 ·have G0:Blk w1.drew w.heap.size 44 (qv q)/\Blk w1.drew g 147 (rwJ q.job):=⟨bq1.drew,bg1.drew⟩
  refine wp_region_held_drew (S:=fun W=>Blk W w.heap.size 44 (qv q)/\Blk W g 147 (rwJ q.job)) (by kernel_rfl) G0 (fun hHeld=>?_)
  refine tq 0 ?_
  refine tq 1 ?_
  refine tq 2 ?_
  refine tq 4 ?_
  refine tr 3 rfl (fun K hK=>?_)
  go_simp
  refine(HW.out w1.drew g G0.2).mono ?_
  rintro e w2 ⟨rfl,hb2⟩
  have hB2:=hB1.trans (((zri _ w1).drew.trans (hb2.mono (zra _))).mono hB1.size)
  have G1:Blk w2 w.heap.size 44 (qv q)/\Blk w2 g 147 (rwJ q.job):=⟨G0.1.below hb2 G0.1.lt,G0.2.below hb2 G0.2.lt⟩
  clear hb2 hB1
  refine hK.out _ _ G1 (fun hHeld=>?_)
  clear hK K
  (try simp only[Act.put,ma,mb,mc,md,me,mf])
  refine tq 5 ?_
  refine tq 6 ?_
  refine wpAnyH_done (by kernel_rfl) ?_ _
  obtain⟨bq2,bg2⟩:=G1
  clear G0 hHeld bq1 bg1
  have HC2:=zrj (HC.out w2 g bg2 hB2)
  go_wp2_with fail
  refine HC2.out.mono ?_
  rintro e w3 ⟨rfl,hb3⟩
  have hB3:=bthen hB2 hb3
  go_wp2_with fail
  go_ret
  refine⟨?_,hB3⟩
  rw[HR.out,if_pos (by trivial)]
  rfl
theorem wj9 (q:ReqD) (w:World) (HS:ReqSz q) (hT:Tabs w) (hkind:q.kind=2) :
  Calls prog 37 #[.agg (qv q)] w fun e w'=>e=.returned (.int .i64 ((reqE q:Nat):Int))/\Below w.heap.size w w':=by
 have hw:uz2 q=⟨q.kind,noJ,q.node,noL,ByteArray.empty,0⟩:=by unfold uz2;simp[hkind]
 have hp:partE q=nodeE q.node:=by unfold partE;simp[hkind]
 have hR:reqE q=if decide ((⟨q.kind,noJ,q.node,noL,ByteArray.empty,0⟩:ReqD)=q)=true then nodeE q.node else 4:=by
  unfold reqE
  rw[if_pos (by omega),hw,hp]
  by_cases h:(⟨q.kind,noJ,q.node,noL,ByteArray.empty,0⟩:ReqD)=q <;> simp[h]
 have HP:=zrj (fun(W:World)=>wwi q hkind W)
 have HW:=zrj (fun(W:World) (g:Nat) (bg:Blk W g 150 (rwN q.node))=>wholeN q.kind q.node g W bg)
 have HC:=zrj (fun(W:World) (g:Nat) (bg:Blk W g 150 (rwN q.node)) (hW:Below w.heap.size w W)=>checkN q.node g W bg HS.nn HS.nz (hT.below hW))
 have hE:=eqInQ ⟨q.kind,noJ,q.node,noL,ByteArray.empty,0⟩ q
 have hE2:=vxe
 generalize hbb:decide ((⟨q.kind,noJ,q.node,noL,ByteArray.empty,0⟩:ReqD)=q)=b at *
 dsimp only[noJ,noN,noL] at hE
 have HR:=zrj hR
 clear hkind hw hp hR hT HS hbb
 have hb0:=zsa w (.cells (qv q) 44)
 have bq0:=Blk.new w 44 (qv q)
 go_enter func37,ntmps37
 go_upto_region 1 with fail
 generalize w.alloc _=w0 at *
 go_wp2_with(first | (refine uqa rfl _ _ rfl w.heap.size rfl _ _ bq0 _ underlying44 rfl uqd ?_))
 refine(HP.out w0).mono ?_
 rintro e w1 ⟨g,rfl,hg,bg1,hb1⟩
 have hB1:=bthen hb0 hb1
 have bq1:=bq0.bl hb1
 clear hb1 hb0 bq0 hg
 go_upto_region 4 with fail
 cases b
 ·have G0:Blk w1.drew w.heap.size 44 (qv q)/\Blk w1.drew g 150 (rwN q.node):=⟨bq1.drew,bg1.drew⟩
  refine wp_region_held_drew (S:=fun W=>Blk W w.heap.size 44 (qv q)/\Blk W g 150 (rwN q.node)) (by kernel_rfl) G0 (fun hHeld=>?_)
  refine tq 0 ?_
  refine tq 1 ?_
  refine tq 2 ?_
  refine tq 4 ?_
  refine tr 3 rfl (fun K hK=>?_)
  go_simp
  refine(HW.out w1.drew g G0.2).mono ?_
  rintro e w2 ⟨rfl,hb2⟩
  have hB2:=hB1.trans (((zri _ w1).drew.trans (hb2.mono (zra _))).mono hB1.size)
  have G1:Blk w2 w.heap.size 44 (qv q)/\Blk w2 g 150 (rwN q.node):=⟨G0.1.below hb2 G0.1.lt,G0.2.below hb2 G0.2.lt⟩
  clear hb2 hB1
  refine hK.out _ _ G1 (fun hHeld=>?_)
  clear hK K
  (try simp only[Act.put,ma,mb,mc,md,me,mf])
  refine tq 5 ?_
  refine tq 6 ?_
  refine wpAnyH_done (by kernel_rfl) ?_ _
  obtain⟨bq2,bg2⟩:=G1
  clear G0 hHeld bq1 bg1
  go_wp2_with fail
  go_ret
  refine⟨?_,hB2⟩
  rw[HR.out,if_neg (by simp)]
  rfl
 ·have G0:Blk w1.drew w.heap.size 44 (qv q)/\Blk w1.drew g 150 (rwN q.node):=⟨bq1.drew,bg1.drew⟩
  refine wp_region_held_drew (S:=fun W=>Blk W w.heap.size 44 (qv q)/\Blk W g 150 (rwN q.node)) (by kernel_rfl) G0 (fun hHeld=>?_)
  refine tq 0 ?_
  refine tq 1 ?_
  refine tq 2 ?_
  refine tq 4 ?_
  refine tr 3 rfl (fun K hK=>?_)
  go_simp
  refine(HW.out w1.drew g G0.2).mono ?_
  rintro e w2 ⟨rfl,hb2⟩
  have hB2:=hB1.trans (((zri _ w1).drew.trans (hb2.mono (zra _))).mono hB1.size)
  have G1:Blk w2 w.heap.size 44 (qv q)/\Blk w2 g 150 (rwN q.node):=⟨G0.1.below hb2 G0.1.lt,G0.2.below hb2 G0.2.lt⟩
  clear hb2 hB1
  refine hK.out _ _ G1 (fun hHeld=>?_)
  clear hK K
  (try simp only[Act.put,ma,mb,mc,md,me,mf])
  refine tq 5 ?_
  refine tq 6 ?_
  refine wpAnyH_done (by kernel_rfl) ?_ _
  obtain⟨bq2,bg2⟩:=G1
  clear G0 hHeld bq1 bg1
  have HC2:=zrj (HC.out w2 g bg2 hB2)
  go_wp2_with fail
  refine HC2.out.mono ?_
  rintro e w3 ⟨rfl,hb3⟩
  have hB3:=bthen hB2 hb3
  go_wp2_with fail
  go_ret
  refine⟨?_,hB3⟩
  rw[HR.out,if_pos (by trivial)]
  rfl
theorem wj8 (q:ReqD) (w:World) (HS:ReqSz q) (hT:Tabs w) (hkind:q.kind=5) :
  Calls prog 37 #[.agg (qv q)] w fun e w'=>e=.returned (.int .i64 ((reqE q:Nat):Int))/\Below w.heap.size w w':=by
 have hw:uz2 q=⟨q.kind,noJ,noN,q.lease,ByteArray.empty,0⟩:=by unfold uz2;simp[hkind]
 have hp:partE q=uzi q.lease:=by unfold partE;simp[hkind]
 have hR:reqE q=if decide ((⟨q.kind,noJ,noN,q.lease,ByteArray.empty,0⟩:ReqD)=q)=true then uzi q.lease else 4:=by
  unfold reqE
  rw[if_pos (by omega),hw,hp]
  by_cases h:(⟨q.kind,noJ,noN,q.lease,ByteArray.empty,0⟩:ReqD)=q <;> simp[h]
 have HP:=zrj (fun(W:World)=>wwh q hkind W)
 have HW:=zrj (fun(W:World) (g:Nat) (bg:Blk W g 153 (rwL q.lease))=>wholeL q.kind q.lease g W bg)
 have HC:=zrj (fun(W:World) (g:Nat) (bg:Blk W g 153 (rwL q.lease)) (hW:Below w.heap.size w W)=>checkL q.lease g W bg HS.lj HS.ln (hT.below hW))
 have hE:=eqInQ ⟨q.kind,noJ,noN,q.lease,ByteArray.empty,0⟩ q
 have hE2:=vxe
 generalize hbb:decide ((⟨q.kind,noJ,noN,q.lease,ByteArray.empty,0⟩:ReqD)=q)=b at *
 dsimp only[noJ,noN,noL] at hE
 have HR:=zrj hR
 clear hkind hw hp hR hT HS hbb
 have hb0:=zsa w (.cells (qv q) 44)
 have bq0:=Blk.new w 44 (qv q)
 go_enter func37,ntmps37
 go_upto_region 1 with fail
 generalize w.alloc _=w0 at *
 go_wp2_with(first | (refine uqa rfl _ _ rfl w.heap.size rfl _ _ bq0 _ underlying44 rfl uqd ?_))
 refine(HP.out w0).mono ?_
 rintro e w1 ⟨g,rfl,hg,bg1,hb1⟩
 have hB1:=bthen hb0 hb1
 have bq1:=bq0.bl hb1
 clear hb1 hb0 bq0 hg
 go_upto_region 4 with fail
 cases b
 ·have G0:Blk w1.drew w.heap.size 44 (qv q)/\Blk w1.drew g 153 (rwL q.lease):=⟨bq1.drew,bg1.drew⟩
  refine wp_region_held_drew (S:=fun W=>Blk W w.heap.size 44 (qv q)/\Blk W g 153 (rwL q.lease)) (by kernel_rfl) G0 (fun hHeld=>?_)
  refine tq 0 ?_
  refine tq 1 ?_
  refine tq 2 ?_
  refine tq 4 ?_
  refine tr 3 rfl (fun K hK=>?_)
  go_simp
  refine(HW.out w1.drew g G0.2).mono ?_
  rintro e w2 ⟨rfl,hb2⟩
  have hB2:=hB1.trans (((zri _ w1).drew.trans (hb2.mono (zra _))).mono hB1.size)
  have G1:Blk w2 w.heap.size 44 (qv q)/\Blk w2 g 153 (rwL q.lease):=⟨G0.1.below hb2 G0.1.lt,G0.2.below hb2 G0.2.lt⟩
  clear hb2 hB1
  refine hK.out _ _ G1 (fun hHeld=>?_)
  clear hK K
  (try simp only[Act.put,ma,mb,mc,md,me,mf])
  refine tq 5 ?_
  refine tq 6 ?_
  refine wpAnyH_done (by kernel_rfl) ?_ _
  obtain⟨bq2,bg2⟩:=G1
  clear G0 hHeld bq1 bg1
  go_wp2_with fail
  go_ret
  refine⟨?_,hB2⟩
  rw[HR.out,if_neg (by simp)]
  rfl
 ·have G0:Blk w1.drew w.heap.size 44 (qv q)/\Blk w1.drew g 153 (rwL q.lease):=⟨bq1.drew,bg1.drew⟩
  refine wp_region_held_drew (S:=fun W=>Blk W w.heap.size 44 (qv q)/\Blk W g 153 (rwL q.lease)) (by kernel_rfl) G0 (fun hHeld=>?_)
  refine tq 0 ?_
  refine tq 1 ?_
  refine tq 2 ?_
  refine tq 4 ?_
  refine tr 3 rfl (fun K hK=>?_)
  go_simp
  refine(HW.out w1.drew g G0.2).mono ?_
  rintro e w2 ⟨rfl,hb2⟩
  have hB2:=hB1.trans (((zri _ w1).drew.trans (hb2.mono (zra _))).mono hB1.size)
  have G1:Blk w2 w.heap.size 44 (qv q)/\Blk w2 g 153 (rwL q.lease):=⟨G0.1.below hb2 G0.1.lt,G0.2.below hb2 G0.2.lt⟩
  clear hb2 hB1
  refine hK.out _ _ G1 (fun hHeld=>?_)
  clear hK K
  (try simp only[Act.put,ma,mb,mc,md,me,mf])
  refine tq 5 ?_
  refine tq 6 ?_
  refine wpAnyH_done (by kernel_rfl) ?_ _
  obtain⟨bq2,bg2⟩:=G1
  clear G0 hHeld bq1 bg1
  have HC2:=zrj (HC.out w2 g bg2 hB2)
  go_wp2_with fail
  refine HC2.out.mono ?_
  rintro e w3 ⟨rfl,hb3⟩
  have hB3:=bthen hB2 hb3
  go_wp2_with fail
  go_ret
  refine⟨?_,hB3⟩
  rw[HR.out,if_pos (by trivial)]
  rfl
theorem wka (q:ReqD) (w:World) (HS:ReqSz q) (hT:Tabs w) (hkind:q.kind=3\/q.kind=4\/q.kind=6) :
  Calls prog 37 #[.agg (qv q)] w fun e w'=>e=.returned (.int .i64 ((reqE q:Nat):Int))/\Below w.heap.size w w':=by
 have hw:uz2 q=⟨q.kind,noJ,noN,noL,q.name,0⟩:=by unfold uz2;rcases hkind with h | h | h <;> simp[h]
 have hp:partE q=nameC q.name:=by unfold partE nameC;rcases hkind with h | h | h <;> simp[h]
 have hR:reqE q=if decide ((⟨q.kind,noJ,noN,noL,q.name,0⟩:ReqD)=q)=true then nameC q.name else 4:=by
  unfold reqE
  rw[if_pos (by omega),hw,hp]
  by_cases h:(⟨q.kind,noJ,noN,noL,q.name,0⟩:ReqD)=q <;> simp[h]
 have HP:=zrj (fun(W:World)=>show Calls prog 39 #[.agg (qv q)] W (fun e w'=>∃g,e=.returned (.iface 155 (zse g))/\W.heap.size<=g/\Blk w' g 154 #[.string q.name]/\Below W.heap.size W w') from by rcases hkind with h | h | h;exact xqd q h W;exact xqe q h W;exact xqf q h W)
 have HW:=zrj (fun(W:World) (g:Nat) (bg:Blk W g 154 #[.string q.name])=>wholeS q.kind q.name g W bg)
 have HC:=zrj (fun(W:World) (g:Nat) (bg:Blk W g 154 #[.string q.name]) (hW:Below w.heap.size w W)=>checkS q.name g W bg HS.nm (hT.below hW))
 have hE:=eqInQ ⟨q.kind,noJ,noN,noL,q.name,0⟩ q
 have hE2:=vxe
 generalize hbb:decide ((⟨q.kind,noJ,noN,noL,q.name,0⟩:ReqD)=q)=b at *
 dsimp only[noJ,noN,noL] at hE
 have HR:=zrj hR
 clear hkind hw hp hR hT HS hbb
 have hb0:=zsa w (.cells (qv q) 44)
 have bq0:=Blk.new w 44 (qv q)
 go_enter func37,ntmps37
 go_upto_region 1 with fail
 generalize w.alloc _=w0 at *
 go_wp2_with(first | (refine uqa rfl _ _ rfl w.heap.size rfl _ _ bq0 _ underlying44 rfl uqd ?_))
 refine(HP.out w0).mono ?_
 rintro e w1 ⟨g,rfl,hg,bg1,hb1⟩
 have hB1:=bthen hb0 hb1
 have bq1:=bq0.bl hb1
 clear hb1 hb0 bq0 hg
 go_upto_region 4 with fail
 cases b
 ·have G0:Blk w1.drew w.heap.size 44 (qv q)/\Blk w1.drew g 154 #[.string q.name]:=⟨bq1.drew,bg1.drew⟩
  refine wp_region_held_drew (S:=fun W=>Blk W w.heap.size 44 (qv q)/\Blk W g 154 #[.string q.name]) (by kernel_rfl) G0 (fun hHeld=>?_)
  refine tq 0 ?_
  refine tq 1 ?_
  refine tq 2 ?_
  refine tq 4 ?_
  refine tr 3 rfl (fun K hK=>?_)
  go_simp
  refine(HW.out w1.drew g G0.2).mono ?_
  rintro e w2 ⟨rfl,hb2⟩
  have hB2:=hB1.trans (((zri _ w1).drew.trans (hb2.mono (zra _))).mono hB1.size)
  have G1:Blk w2 w.heap.size 44 (qv q)/\Blk w2 g 154 #[.string q.name]:=⟨G0.1.below hb2 G0.1.lt,G0.2.below hb2 G0.2.lt⟩
  clear hb2 hB1
  refine hK.out _ _ G1 (fun hHeld=>?_)
  clear hK K
  (try simp only[Act.put,ma,mb,mc,md,me,mf])
  refine tq 5 ?_
  refine tq 6 ?_
  refine wpAnyH_done (by kernel_rfl) ?_ _
  obtain⟨bq2,bg2⟩:=G1
  clear G0 hHeld bq1 bg1
  go_wp2_with fail
  go_ret
  refine⟨?_,hB2⟩
  rw[HR.out,if_neg (by simp)]
  rfl
 ·have G0:Blk w1.drew w.heap.size 44 (qv q)/\Blk w1.drew g 154 #[.string q.name]:=⟨bq1.drew,bg1.drew⟩
  refine wp_region_held_drew (S:=fun W=>Blk W w.heap.size 44 (qv q)/\Blk W g 154 #[.string q.name]) (by kernel_rfl) G0 (fun hHeld=>?_)
  refine tq 0 ?_
  refine tq 1 ?_
  refine tq 2 ?_
  refine tq 4 ?_
  refine tr 3 rfl (fun K hK=>?_)
  go_simp
  refine(HW.out w1.drew g G0.2).mono ?_
  rintro e w2 ⟨rfl,hb2⟩
  have hB2:=hB1.trans (((zri _ w1).drew.trans (hb2.mono (zra _))).mono hB1.size)
  have G1:Blk w2 w.heap.size 44 (qv q)/\Blk w2 g 154 #[.string q.name]:=⟨G0.1.below hb2 G0.1.lt,G0.2.below hb2 G0.2.lt⟩
  clear hb2 hB1
  refine hK.out _ _ G1 (fun hHeld=>?_)
  clear hK K
  (try simp only[Act.put,ma,mb,mc,md,me,mf])
  refine tq 5 ?_
  refine tq 6 ?_
  refine wpAnyH_done (by kernel_rfl) ?_ _
  obtain⟨bq2,bg2⟩:=G1
  clear G0 hHeld bq1 bg1
  have HC2:=zrj (HC.out w2 g bg2 hB2)
  go_wp2_with fail
  refine HC2.out.mono ?_
  rintro e w3 ⟨rfl,hb3⟩
  have hB3:=bthen hB2 hb3
  go_wp2_with fail
  go_ret
  refine⟨?_,hB3⟩
  rw[HR.out,if_pos (by trivial)]
  rfl
theorem wj6 (q:ReqD) (w:World) (HS:ReqSz q) (hT:Tabs w) (hkind:q.kind=7) :
  Calls prog 37 #[.agg (qv q)] w fun e w'=>e=.returned (.int .i64 ((reqE q:Nat):Int))/\Below w.heap.size w w':=by
 have hw:uz2 q=⟨q.kind,noJ,noN,noL,ByteArray.empty,q.n⟩:=by unfold uz2;simp[hkind]
 have hp:partE q=wzj q.n:=by unfold partE wzj;simp[hkind]
 have hR:reqE q=if decide ((⟨q.kind,noJ,noN,noL,ByteArray.empty,q.n⟩:ReqD)=q)=true then wzj q.n else 4:=by
  unfold reqE
  rw[if_pos (by omega),hw,hp]
  by_cases h:(⟨q.kind,noJ,noN,noL,ByteArray.empty,q.n⟩:ReqD)=q <;> simp[h]
 have HP:=zrj (fun(W:World)=>wwf q hkind W)
 have HW:=zrj (fun(W:World) (g:Nat) (bg:Blk W g 156 #[.int .i64 q.n])=>wholeC q.kind q.n g W bg)
 have HC:=zrj (fun(W:World) (g:Nat) (bg:Blk W g 156 #[.int .i64 q.n]) (hW:Below w.heap.size w W)=>checkC q.n g W bg )
 have hE:=eqInQ ⟨q.kind,noJ,noN,noL,ByteArray.empty,q.n⟩ q
 have hE2:=vxe
 generalize hbb:decide ((⟨q.kind,noJ,noN,noL,ByteArray.empty,q.n⟩:ReqD)=q)=b at *
 dsimp only[noJ,noN,noL] at hE
 have HR:=zrj hR
 clear hkind hw hp hR hT HS hbb
 have hb0:=zsa w (.cells (qv q) 44)
 have bq0:=Blk.new w 44 (qv q)
 go_enter func37,ntmps37
 go_upto_region 1 with fail
 generalize w.alloc _=w0 at *
 go_wp2_with(first | (refine uqa rfl _ _ rfl w.heap.size rfl _ _ bq0 _ underlying44 rfl uqd ?_))
 refine(HP.out w0).mono ?_
 rintro e w1 ⟨g,rfl,hg,bg1,hb1⟩
 have hB1:=bthen hb0 hb1
 have bq1:=bq0.bl hb1
 clear hb1 hb0 bq0 hg
 go_upto_region 4 with fail
 cases b
 ·have G0:Blk w1.drew w.heap.size 44 (qv q)/\Blk w1.drew g 156 #[.int .i64 q.n]:=⟨bq1.drew,bg1.drew⟩
  refine wp_region_held_drew (S:=fun W=>Blk W w.heap.size 44 (qv q)/\Blk W g 156 #[.int .i64 q.n]) (by kernel_rfl) G0 (fun hHeld=>?_)
  refine tq 0 ?_
  refine tq 1 ?_
  refine tq 2 ?_
  refine tq 4 ?_
  refine tr 3 rfl (fun K hK=>?_)
  go_simp
  refine(HW.out w1.drew g G0.2).mono ?_
  rintro e w2 ⟨rfl,hb2⟩
  have hB2:=hB1.trans (((zri _ w1).drew.trans (hb2.mono (zra _))).mono hB1.size)
  have G1:Blk w2 w.heap.size 44 (qv q)/\Blk w2 g 156 #[.int .i64 q.n]:=⟨G0.1.below hb2 G0.1.lt,G0.2.below hb2 G0.2.lt⟩
  clear hb2 hB1
  refine hK.out _ _ G1 (fun hHeld=>?_)
  clear hK K
  (try simp only[Act.put,ma,mb,mc,md,me,mf])
  refine tq 5 ?_
  refine tq 6 ?_
  refine wpAnyH_done (by kernel_rfl) ?_ _
  obtain⟨bq2,bg2⟩:=G1
  clear G0 hHeld bq1 bg1
  go_wp2_with fail
  go_ret
  refine⟨?_,hB2⟩
  rw[HR.out,if_neg (by simp)]
  rfl
 ·have G0:Blk w1.drew w.heap.size 44 (qv q)/\Blk w1.drew g 156 #[.int .i64 q.n]:=⟨bq1.drew,bg1.drew⟩
  refine wp_region_held_drew (S:=fun W=>Blk W w.heap.size 44 (qv q)/\Blk W g 156 #[.int .i64 q.n]) (by kernel_rfl) G0 (fun hHeld=>?_)
  refine tq 0 ?_
  refine tq 1 ?_
  refine tq 2 ?_
  refine tq 4 ?_
  refine tr 3 rfl (fun K hK=>?_)
  go_simp
  refine(HW.out w1.drew g G0.2).mono ?_
  rintro e w2 ⟨rfl,hb2⟩
  have hB2:=hB1.trans (((zri _ w1).drew.trans (hb2.mono (zra _))).mono hB1.size)
  have G1:Blk w2 w.heap.size 44 (qv q)/\Blk w2 g 156 #[.int .i64 q.n]:=⟨G0.1.below hb2 G0.1.lt,G0.2.below hb2 G0.2.lt⟩
  clear hb2 hB1
  refine hK.out _ _ G1 (fun hHeld=>?_)
  clear hK K
  (try simp only[Act.put,ma,mb,mc,md,me,mf])
  refine tq 5 ?_
  refine tq 6 ?_
  refine wpAnyH_done (by kernel_rfl) ?_ _
  obtain⟨bq2,bg2⟩:=G1
  clear G0 hHeld bq1 bg1
  have HC2:=zrj (HC.out w2 g bg2 hB2)
  go_wp2_with fail
  refine HC2.out.mono ?_
  rintro e w3 ⟨rfl,hb3⟩
  have hB3:=bthen hB2 hb3
  go_wp2_with fail
  go_ret
  refine⟨?_,hB3⟩
  rw[HR.out,if_pos (by trivial)]
  rfl
theorem wkb (q:ReqD) (w:World) (HS:ReqSz q) (hT:Tabs w) (hkind:q.kind=8\/q.kind=9) :
  Calls prog 37 #[.agg (qv q)] w fun e w'=>e=.returned (.int .i64 ((reqE q:Nat):Int))/\Below w.heap.size w w':=by
 have hw:uz2 q=⟨q.kind,noJ,noN,noL,ByteArray.empty,0⟩:=by unfold uz2;rcases hkind with h | h <;> simp[h]
 have hp:partE q=0:=by unfold partE;rcases hkind with h | h <;> simp[h]
 have hR:reqE q=if decide ((⟨q.kind,noJ,noN,noL,ByteArray.empty,0⟩:ReqD)=q)=true then 0 else 4:=by
  unfold reqE
  rw[if_pos (by omega),hw,hp]
  by_cases h:(⟨q.kind,noJ,noN,noL,ByteArray.empty,0⟩:ReqD)=q <;> simp[h]
 have HP:=zrj (fun(W:World)=>show Calls prog 39 #[.agg (qv q)] W (fun e w'=>e=.returned (.iface 159 (.agg #[]))/\Below W.heap.size W w') from by rcases hkind with h | h;exact xqg q h W;exact xqh q h W)
 have HW:=zrj (fun(W:World)=>wholeZ q.kind W)
 have HC:=zrj (fun(W:World)=>checkZ W)
 have hE:=eqInQ ⟨q.kind,noJ,noN,noL,ByteArray.empty,0⟩ q
 have hE2:=vxe
 generalize hbb:decide ((⟨q.kind,noJ,noN,noL,ByteArray.empty,0⟩:ReqD)=q)=b at *
 dsimp only[noJ,noN,noL] at hE
 have HR:=zrj hR
 clear hkind hw hp hR hT HS hbb
 have hb0:=zsa w (.cells (qv q) 44)
 have bq0:=Blk.new w 44 (qv q)
 go_enter func37,ntmps37
 go_upto_region 1 with fail
 generalize w.alloc _=w0 at *
 go_wp2_with(first | (refine uqa rfl _ _ rfl w.heap.size rfl _ _ bq0 _ underlying44 rfl uqd ?_))
 refine(HP.out w0).mono ?_
 rintro e w1 ⟨rfl,hb1⟩
 have hB1:=bthen hb0 hb1
 have bq1:=bq0.bl hb1
 clear hb1 hb0 bq0
 go_upto_region 4 with fail
 cases b
 ·have G0:Blk w1.drew w.heap.size 44 (qv q)/\True:=⟨bq1.drew,trivial⟩
  refine wp_region_held_drew (S:=fun W=>Blk W w.heap.size 44 (qv q)/\True) (by kernel_rfl) G0 (fun hHeld=>?_)
  refine tq 0 ?_
  refine tq 1 ?_
  refine tq 2 ?_
  refine tq 4 ?_
  refine tr 3 rfl (fun K hK=>?_)
  go_simp
  refine(HW.out w1.drew).mono ?_
  rintro e w2 ⟨rfl,hb2⟩
  have hB2:=hB1.trans (((zri _ w1).drew.trans (hb2.mono (zra _))).mono hB1.size)
  have G1:Blk w2 w.heap.size 44 (qv q)/\True:=⟨G0.1.below hb2 G0.1.lt,trivial⟩
  clear hb2 hB1
  refine hK.out _ _ G1 (fun hHeld=>?_)
  clear hK K
  (try simp only[Act.put,ma,mb,mc,md,me,mf])
  refine tq 5 ?_
  refine tq 6 ?_
  refine wpAnyH_done (by kernel_rfl) ?_ _
  obtain⟨bq2,bg2⟩:=G1
  clear G0 hHeld bq1
  go_wp2_with fail
  go_ret
  refine⟨?_,hB2⟩
  rw[HR.out,if_neg (by simp)]
  rfl
 ·have G0:Blk w1.drew w.heap.size 44 (qv q)/\True:=⟨bq1.drew,trivial⟩
  refine wp_region_held_drew (S:=fun W=>Blk W w.heap.size 44 (qv q)/\True) (by kernel_rfl) G0 (fun hHeld=>?_)
  refine tq 0 ?_
  refine tq 1 ?_
  refine tq 2 ?_
  refine tq 4 ?_
  refine tr 3 rfl (fun K hK=>?_)
  go_simp
  refine(HW.out w1.drew).mono ?_
  rintro e w2 ⟨rfl,hb2⟩
  have hB2:=hB1.trans (((zri _ w1).drew.trans (hb2.mono (zra _))).mono hB1.size)
  have G1:Blk w2 w.heap.size 44 (qv q)/\True:=⟨G0.1.below hb2 G0.1.lt,trivial⟩
  clear hb2 hB1
  refine hK.out _ _ G1 (fun hHeld=>?_)
  clear hK K
  (try simp only[Act.put,ma,mb,mc,md,me,mf])
  refine tq 5 ?_
  refine tq 6 ?_
  refine wpAnyH_done (by kernel_rfl) ?_ _
  obtain⟨bq2,bg2⟩:=G1
  clear G0 hHeld bq1
  have HC2:=zrj (HC.out w2)
  go_wp2_with fail
  refine HC2.out.mono ?_
  rintro e w3 ⟨rfl,hb3⟩
  have hB3:=bthen hB2 hb3
  go_wp2_with fail
  go_ret
  refine⟨?_,hB3⟩
  rw[HR.out,if_pos (by trivial)]
  rfl
theorem wkc (q:ReqD) (w:World) (HS:ReqSz q) (hT:Tabs w) (hkind:¬(1<=q.kind/\q.kind<=9)) :
  Calls prog 37 #[.agg (qv q)] w fun e w'=>e=.returned (.int .i64 ((reqE q:Nat):Int))/\Below w.heap.size w w':=by
 have hR:reqE q=1:=by unfold reqE;rw[if_neg hkind]
 have HR:=zrj hR
 have HP:=zrj (fun(W:World)=>vyv q hkind W)
 clear hR hkind hT HS
 have hb0:=zsa w (.cells (qv q) 44)
 have bq0:=Blk.new w 44 (qv q)
 go_enter func37,ntmps37
 go_upto_region 1 with fail
 generalize w.alloc _=w0 at *
 go_wp2_with(first | (refine uqa rfl _ _ rfl w.heap.size rfl _ _ bq0 _ underlying44 rfl uqd ?_))
 refine(HP.out w0).mono ?_
 rintro e w1 ⟨rfl,hb1⟩
 have hB1:=bthen hb0 hb1
 go_wp2_with fail
 go_ret
 refine⟨?_,hB1⟩
 rw[HR.out]
 rfl
theorem uzc (q:ReqD) (w:World) (HS:ReqSz q) (hT:Tabs w) :
  Calls prog 37 #[.agg (qv q)] w fun e w'=>e=.returned (.int .i64 ((reqE q:Nat):Int))/\Below w.heap.size w w':=by
 by_cases h:1<=q.kind/\q.kind<=9
 rotate_left
 ·exact wkc q w HS hT h
 by_cases h1:q.kind=1
 ·exact wj7 q w HS hT h1
 by_cases h2:q.kind=2
 ·exact wj9 q w HS hT h2
 by_cases h5:q.kind=5
 ·exact wj8 q w HS hT h5
 by_cases h7:q.kind=7
 ·exact wj6 q w HS hT h7
 by_cases h8:q.kind=8\/q.kind=9
 ·exact wkb q w HS hT h8
 exact wka q w HS hT (by omega)
end Go.Proofs.YtknmnhleicakhaaGreatDoor
