/- Lemmas.
-/
import Derived.Test.YtnnfgchhkekkeaaGreatDoorPfFolBhx
import Derived.Test.YtnnfgchhkekkeaaGreatDoorPfWatP
set_option linter.all false
set_option maxHeartbeats 16000000
set_option maxRecDepth 100000
namespace Go.Proofs.YtnnfgchhkekkeaaGreatDoor.followSame
open Go.ChangeShapes Go.WideShapes Go.ChangeAt Go.RowKit Go.Joins
open Go.ChangeMaps (open_string)
theorem walk (s0:St) (pj0 pn0 pl0:Option Addr) (cj0 cn0 cl0:Nat) (w:World) (hm0:StM w w.heap.size pj0 pn0 pl0 s0) (hk0:StOk s0) (pq1:Option Addr) (cq1:Nat) (l1:List ActD) (hel1:Elts w w.heap.size 2 pq1 (l1.map rowA)) (hok1:∀x∈l1,okA x) (ub1:ujd l1+l1.length≤1048576) (hT:Tabs w) :
  Calls Tryz.prog 3 #[.agg (stv s0 pj0 pn0 pl0 cj0 cn0 cl0),.slice pq1 l1.length cq1] w fun e w'=>e=.returned (.bool true)/\Below w.heap.size w w':=by
 have b0_:=Blk.new w 26 (stv s0 pj0 pn0 pl0 cj0 cn0 cl0)
 have c0:=(zri w.heap.size w).alloc (zra _) (.cells (stv s0 pj0 pn0 pl0 cj0 cn0 cl0) 26)
 have HM:=zrj hm0
 have HZ:=zrj hk0.sz
 have HT:=zrj hT
 have HEL:=zrj hel1
 have HUB:=zrj ub1
 have hza:=wkm
 have hzq:=uq8
 have hzs:=uq6
 have hll:l1.length≤1048576:=by omega
 clear hm0 hk0 hT hel1 hok1 ub1
 by_cases hE:uqp s0=0
 rotate_left
 ·have hne:(((uqp s0:Nat):Int) != 0)=true:=by rw[bne_iff_ne];omega
  have HE:=zrj hE
  clear hE
  go_enter Tryz.func3,Tryz.ntmps3
  go_wp2_with(first | (refine uqx (by rfl) _ _ rfl (w.heap.size) rfl _ _ b0_ _ Tryz.underlying26 rfl uqg ?_))
  generalize w.alloc _=W1 at *
  refine(followed_any _ (HT.out.below c0)).mono ?_
  rintro e w1 ⟨rfl,hb2⟩
  have b3:=b0_.bl hb2
  have c4:=bthen c0 hb2
  clear b0_ c0 hb2
  go_wp2_with(first | (refine uqx (by rfl) _ _ rfl (w.heap.size) rfl _ _ b3 _ Tryz.underlying26 rfl uqg ?_))
  refine(hnew_bad s0 _ _ _ _ _ _ _ ((HM.out.below c4).more c4.size) HZ.out (HT.out.below c4) HE.out).mono ?_
  rintro e w5 ⟨rfl,hb6⟩
  have b7:=b3.bl hb6
  have c8:=bthen c4 hb6
  clear b3 c4 hb6
  go_wp2_with(first | (refine uqx (by rfl) _ _ rfl (w.heap.size) rfl _ _ b7 _ Tryz.underlying26 rfl uqg ?_))
  go_ret
  exact⟨rfl,c8⟩
 have HE:=zrj hE
 have F0:=zrj ((uxo s0).1 hE)
 clear hE
 go_enter Tryz.func3,Tryz.ntmps3
 go_wp2_with(first | (refine uqx (by rfl) _ _ rfl (w.heap.size) rfl _ _ b0_ _ Tryz.underlying26 rfl uqg ?_))
 generalize w.alloc _=W1 at *
 refine(followed_any _ (HT.out.below c0)).mono ?_
 rintro e w9 ⟨rfl,hb10⟩
 have b11:=b0_.bl hb10
 have c12:=bthen c0 hb10
 clear b0_ c0 hb10
 go_wp2_with(first | (refine uqx (by rfl) _ _ rfl (w.heap.size) rfl _ _ b11 _ Tryz.underlying26 rfl uqg ?_))
 refine(wq3 s0 _ _ _ _ _ _ _ ((HM.out.below c12).more c12.size) HZ.out (HT.out.below c12) HE.out).mono ?_
 rintro e wN ⟨g,sv,fd,ws,rfl,HN_,hbN⟩
 have hB:=zrj c12.size
 have HN:=zrj HN_
 clear HN_
 have b13:=b11.bl hbN
 have c14:=bthen c12 hbN
 clear b11 c12 hbN
 go_wp2_with(first | (refine uqx (by rfl) _ _ rfl (w.heap.size) rfl _ _ b13 _ Tryz.underlying26 rfl uqg ?_))
 have CH:=zrj c14
 refine(xxm wN).mono ?_
 rintro e wF ⟨f,fd',rfl,hf0,hfd0,M0,hbF⟩
 have S0:=(⟨HN.out,HubC.refl _ _ _ _ _,fun W hW=>HT.out.below (CH.out.trans (hW.mono hB.out)),HN.out.lo.2.2.2⟩:HubS wN wN w9.heap.size g sv fd ws ws (newH s0))
 have SF:=S0.below hbF
 have XF:=(⟨by rw[folOf_nil];exact M0,fun k hk ho=>by have:=(HN.out.own_ge ho).2;have h1:wN.heap.size≤k:=hk.1;omega,⟨hf0,hfd0⟩,fun x hx=>by cases hx⟩:FolN wF wN.heap.size g sv fd ws f fd' _ [] _)
 have HBy:=zrj (vw9 qWat wF (show ReqSz qWat from wwm) (SF.T _ (zri _ _)))
 rw[show decide (reqE qWat=0)=true from by rw[xwb];rfl] at HBy
 clear M0 hf0 hfd0 hbF S0
 go_wp2_with fail
 refine HBy.out.mono ?_
 rintro e w3 ⟨rfl,hb3⟩
 have S3:=SF.below hb3
 have X3:=XF.below hb3
 have hbq:uxd qWat=encs [reqFr qWat]:=by unfold uxd;rw[if_pos xwb]
 have hbs:=vq2 qWat
 have hnf:=xvk s0 (k:=7) (by decide) xwb
 have HSd:=vzt S3.H (k:=7) (by decide) (uy3 F0.out) S3.T (bstr (uxd qWat)) (by rw[uqz];omega)
  (by rw[uqv,hnf];decide) (fun n i hi=>by
   rw[uqv]
   have h:=wyz (newH s0) 7 (uxd qWat) n i
   rw[vzw,hnf] at h
   have h2:[reqFr qWat].length=1:=rfl
   omega) rfl
 rw[uqv,hbq] at HSd
 have FN:=(⟨uy3 F0.out,wq8 s0,rfl,rfl,rfl,(fun x hx=>by cases hx),rfl,(fun h=>by cases h)⟩:Fw 7 false false (newH s0) [])
 obtain⟨hgo,hz,hol,_,_,_,o',FW⟩:=FN.look (vz8 s0) (by decide)
 rw[List.nil_append] at FW
 have HSd:=zrj HSd
 clear HBy SF XF hb3 FN
 have HL1:=zrj ((LenI.new s0).sent 7 (uxd qWat) (vq2 qWat))
 have HFW:=zrj FW
 have HZC:=zrj hz
 have HGO:=zrj hgo
 have HOL:=zrj hol
 have SH3:=zrj S3
 have XH3:=zrj X3
 clear hbs hnf FW hz hol hgo S3 X3
 rw[← hbq] at HSd HFW HZC HGO HOL
 clear hbq
 generalize(newH s0).send 7 (uxd qWat)=h1 at *
 generalize(newH s0).out 7 (uxd qWat)=out at *
 generalize bstr (uxd qWat)=wb at *
 go_wp2_with fail
 refine HSd.out.mono ?_
 rintro e w4 ⟨rfl,ws4,H4,C4⟩
 have S4:=SH3.out.hub H4 C4
 have X4:=XH3.out.hub C4
 have HPu:=fpush_any S4 X4 out HGO.out HOL.out
 unfold PushQ at HPu
 rw[HZC.out,List.nil_append] at HPu
 have HPU:=zrj HPu
 clear HPu S4 X4 H4 C4 HSd SH3 XH3
 generalize bstr (encs out)=outb at *
 go_wp2_with fail
 refine HPU.out.mono ?_
 rintro e w5 ⟨rfl,R5,v5,S5,X5,_,_⟩
 have HQ5:=folState_any X5.M (folOf_ok _)
 cases o'
 ·rw[show(folOf out).st=none from HFW.out.st] at HQ5
  have HQ:=zrj HQ5
  have HF:=zrj (S5.all HN.out CH.out hB.out)
  clear HQ5 S5 X5 HPU
  generalize stOr none=s5 at *
  go_wp2_with fail
  refine HQ.out.mono ?_
  rintro e w6 ⟨q1,q2,q3,d1,d2,d3,rfl,_,hb6⟩
  have c6:=HF.out.trans (hb6.mono HF.out.size)
  have c7:=c6.alloc c6.size (.cells (stv s5 q1 q2 q3 d1 d2 d3) 26)
  clear hb6 c6
  go_upto_region 13 with(first | (refine uqf rfl _ _ _ rfl rfl 26 _ (stv s5 q1 q2 q3 d1 d2 d3) rfl uqg rfl (ux7 _ _ _ _ _ _ _ _ _ _) ?_))
  generalize w6.alloc _=w7 at *
  go_wp2_with fail
  go_ret
  exact⟨rfl,c7⟩
 rw[show(folOf out).st=some h1.srv.st from HFW.out.st] at HQ5
 have HQ:=zrj HQ5
 have HS5:=zrj S5
 have HX5:=zrj X5
 clear HQ5 S5 X5 HPU
 generalize stOr (some h1.srv.st)=s5 at *
 go_wp2_with fail
 refine HQ.out.mono ?_
 rintro e w6 ⟨q1,q2,q3,d1,d2,d3,rfl,_,hb6⟩
 have hb7:=hb6.alloc hb6.size (.cells (stv s5 q1 q2 q3 d1 d2 d3) 26)
 have S7:=HS5.out.below hb7
 have X7:=HX5.out.below hb7
 clear hb6 hb7 HS5 HX5 HQ
 go_upto_region 13 with(first | (refine uqf rfl _ _ _ rfl rfl 26 _ (stv s5 q1 q2 q3 d1 d2 d3) rfl uqg rfl (ux7 _ _ _ _ _ _ _ _ _ _) ?_))
 generalize w6.alloc _=w7 at *
 go_wp2_with fail
 go_loopw [72] (fun i wr=>∃(n:Nat) (h:HubD) (wsn:Nat→Value) (fs:List Fr) (R:Nat→Prop) (v:Value),n≤l1.length/\i=.int .i64 n/\HubS wr wN w9.heap.size g sv fd ws wsn h/\FolN wr wN.heap.size g sv fd wsn f fd' R fs v/\Hid (Fw 7 true true h fs/\LenI h (200000000+totP ((l1.take n).map toP)))) (fun i _=>l1.length-(intOf i).toNat)
 case atStart=>exact⟨0,h1,ws4,out,R5,v5,Nat.zero_le _,rfl,S7,X7,zrj ⟨HFW.out,HL1.out.more (Nat.le_add_right _ _)⟩⟩
 case round =>
  obtain⟨n,h,wsn,fs,R,v,hn,rfl,Sn,Xn,In⟩:=hrel
  clear S7 X7
  by_cases hlt:n<l1.length
  ·have hx:l1[n]?=some l1[n]:=zrd hlt
   have hnx:=totP_next hx
   have hal:=totP_all HUB.out (n+1)
   have hxs:=ww8 (List.getElem_mem hlt)
   have cc:=Sn.all HN.out CH.out hB.out
   generalize l1[n]=x at *
   obtain⟨a,rfl,hab,_,hat⟩:=(HEL.out.below cc).at_ (k:=n) (r:=rowA x) (by rw[zrg,hx];rfl)
   have hb1:=zsa wr (.cells #[.int .i64 x.conn,.string x.bytes] 52)
   have bx:=Blk.new wr 52 #[.int .i64 x.conn,.string x.bytes]
   have S1:=zrj (Sn.below hb1)
   have X1:=zrj (Xn.below hb1)
   have x0:(wr.alloc (.cells #[.int .i64 x.conn,.string x.bytes] 52)).cell? ⟨wr.heap.size,0,none⟩=some (.int .i64 x.conn):=bx.cell 0
   have x1:(wr.alloc (.cells #[.int .i64 x.conn,.string x.bytes] 52)).cell? ⟨wr.heap.size,1,none⟩=some (.string x.bytes):=bx.cell 1
   have HNX:=zrj (show x.bytes.size≤1048576/\totP ((l1.take (n+1)).map toP)=totP ((l1.take n).map toP)+((x.bytes.size+6020)*18054+6018)/\totP ((l1.take (n+1)).map toP)≤114000000000000 from⟨by have:=HUB.out;omega,hnx,hal⟩)
   clear Sn Xn hx hab hb1 cc bx hnx hal hxs
   obtain⟨cn,by_⟩:=x
   simp only at HNX x0 x1 hat
   go_upto_region 18 with(first | (refine uqe rfl _ _ rfl (a.add (n*2)) rfl [Value.int .i64 cn,Value.string by_] _ hat Tryz.underlying52 rfl ww7 ?_) | (refine uqf rfl _ _ _ rfl rfl 52 _ #[.int .i64 cn,.string by_] rfl ww7 rfl (one_act _ _) ?_))
   generalize wr.alloc _=W1 at *
   generalize wr.heap.size=gx at *
   clear hat
   by_cases h7:cn=7
   ·have n7:(cn == 7)=true:=by rw[beq_iff_eq];exact h7
    clear h7
    go_wp2_with fail
    go_roundw
    case rel=>exact⟨n+1,h,wsn,fs,R,v,by omega,by go_num,S1.out,X1.out,zrj ⟨In.out.1,In.out.2.more (by have:=HNX.out;omega)⟩⟩
    case measure=>simp[intOf];omega
   have n7:(cn == 7)=false:=by rw[zrf];exact h7
   have HSe:=zrj (wsend_any S1.out.H In.out.1 In.out.2 cn h7 by_ HNX.out.1 (by have:=HNX.out;omega) S1.out.T)
   clear h7
   go_wp2_with fail
   refine HSe.out.mono ?_
   rintro e w8 ⟨r1,r2,h2,ws2,rfl,H2,C2,L2,D2,Z2⟩
   have S2:=S1.out.hub H2 C2
   have X2:=zrj (X1.out.hub C2)
   have HOu:=zrj (hout_any S2.H (k:=7) (by decide))
   have HS2:=zrj S2
   have HL2:=zrj (show LenI h2 (200000000+totP ((l1.take (n+1)).map toP)) from L2.more (by have:=HNX.out;omega))
   have HD2:=zrj D2
   have HZ2:=zrj (show(encs (h2.c 7).waits).length≤1000000000000 from zrc Z2 (by decide))
   clear HSe S2 H2 C2 L2 D2 Z2 X1 S1 x0 x1 n7
   go_wp2_with fail
   refine HOu.out.mono ?_
   rintro e w9 ⟨rfl,ws3,H3,C3⟩
   have S3:=HS2.out.hub H3 C3
   have X3:=X2.out.hub C3
   have HPu:=fpush_any S3 X3 (h2.c 7).waits HD2.out.g HZ2.out
   unfold PushQ at HPu
   rw[HD2.out.z] at HPu
   have HPU:=zrj HPu
   have HFw:=zrj HD2.out.f
   have HL3:=zrj (HL2.out.flush 7)
   clear HPu S3 X3 H3 C3 HOu HS2 HL2 HD2 HZ2 X2 In HNX
   generalize h2.flush 7=h3 at *
   generalize(h2.c 7).waits=gs at *
   generalize bstr (encs gs)=ob at *
   generalize fs++gs=fs3 at *
   go_wp2_with fail
   refine HPU.out.mono ?_
   rintro e wA ⟨rfl,RA,vA,SA,XA,_,_⟩
   have HQA:=folState_any XA.M (folOf_ok _)
   rw[show(folOf fs3).st=some h3.srv.st from HFw.out.st] at HQA
   have HQ:=zrj HQA
   have HSA:=zrj SA
   have HXA:=zrj XA
   have hfi:=zrj HFw.out.v.1
   clear HQA SA XA HPU
   go_wp2_with fail
   refine HQ.out.mono ?_
   rintro e wB ⟨q1,q2,q3,d1,d2,d3,rfl,hmB,hbB⟩
   simp only[stOr,Option.getD_some] at hmB
   generalize hss:h3.srv.st=s3 at *
   have hb1:=zsa wB (.cells (stv s3 q1 q2 q3 d1 d2 d3) 26)
   have bt:=Blk.new wB 26 (stv s3 q1 q2 q3 d1 d2 d3)
   have S5:=(HSA.out.below hbB).below hb1
   have X5:=(HXA.out.below hbB).below hb1
   have HMT:=zrj ((hmB.below hb1).more hb1.size)
   have HS5:=zrj S5
   have HX5:=zrj X5
   clear HSA HXA hmB hbB hb1 S5 X5 HQ
   go_upto_region 25 with(first | (refine uqf rfl _ _ _ rfl rfl 26 _ (stv s3 q1 q2 q3 d1 d2 d3) rfl uqg rfl (ux7 _ _ _ _ _ _ _ _ _ _) ?_))
   generalize wB.alloc _=wC at *
   generalize wB.heap.size=gt at *
   have S9:=HS5
   have X9:=HX5
   have bt9:=bt
   have HM9:=HMT
   clear HS5 HX5 bt HMT
   have hbR:=(zri wC.heap.size wC).drew
   have S10:=zrj (S9.out.below hbR)
   have X10:=zrj (X9.out.below hbR)
   have bt10:=bt9.bl hbR
   have HM10:=zrj ((HM9.out.below hbR).more hbR.size)
   clear S9 X9 bt9 HM9
   clear hbR
   refine wp_region_held_drew (S:=fun W=>Blk W gt 26 (stv s3 q1 q2 q3 d1 d2 d3)) (by kernel_rfl) bt10 (fun hHeld=>?_)
   generalize wC.drew=V9 at *
   refine tq 0 ?_
   refine tq 1 ?_
   refine tq 2 ?_
   refine tq 3 ?_
   refine tr 4 rfl (fun K hK=>?_)
   go_simp
   have HST:=hstate_any S10.out.H (by rw[hss];exact hfi.out)
   rw[hss] at HST
   refine HST.mono ?_
   rintro e U9 ⟨qa,qb,qc,da,db,dc,rfl,hO9,hb9⟩
   have S11:=zrj (S10.out.below hb9)
   have X11:=zrj (X10.out.below hb9)
   have bt11:=bt10.bl hb9
   have HM11:=zrj ((HM10.out.below hb9).more hb9.size)
   clear S10 X10 bt10 HM10
   clear hb9 HST
   refine hK.out _ _ bt11 (fun hHeld=>?_)
   clear hK K
   refine tr 5 rfl (fun K hK=>?_)
   go_simp
   have HR:=same_any s3 s3 q1 q2 q3 qa qb qc d1 d2 d3 da db dc U9 HM11.out hO9.m hfi.out.sz hfi.out.sz
   rw[decide_eq_true rfl] at HR
   refine HR.mono ?_
   rintro e Y9 ⟨rfl,hb10⟩
   have S12:=zrj (S11.out.below hb10)
   have X12:=zrj (X11.out.below hb10)
   have bt12:=bt11.bl hb10
   have HM12:=zrj ((HM11.out.below hb10).more hb10.size)
   clear S11 X11 bt11 HM11
   clear hb10 hO9 HR
   refine hK.out _ _ bt12 (fun hHeld=>?_)
   clear hK K
   refine tq 6 ?_
   refine tq 7 ?_
   refine tq 8 ?_
   refine tu 9 ?_
   refine tu 10 ?_
   refine tq 11 ?_
   refine wpAnyH_done (by kernel_rfl) ?_ _
   go_upto_region 27 with fail
   have hbR:=(zri Y9.heap.size Y9).drew
   have S13:=zrj (S12.out.below hbR)
   have X13:=zrj (X12.out.below hbR)
   have bt13:=bt12.bl hbR
   have HM13:=zrj ((HM12.out.below hbR).more hbR.size)
   clear S12 X12 bt12 HM12
   clear hbR
   refine wp_region_held_drew (S:=fun W=>Blk W gt 26 (stv s3 q1 q2 q3 d1 d2 d3)) (by kernel_rfl) bt13 (fun hHeld=>?_)
   generalize Y9.drew=V12 at *
   refine tq 0 ?_
   refine tq 1 ?_
   refine tq 2 ?_
   refine tq 3 ?_
   refine tr 4 rfl (fun K hK=>?_)
   go_simp
   have HST:=hstate_any S13.out.H (by rw[hss];exact hfi.out)
   rw[hss] at HST
   refine HST.mono ?_
   rintro e U12 ⟨qa,qb,qc,da,db,dc,rfl,hO12,hb12⟩
   have S14:=zrj (S13.out.below hb12)
   have X14:=zrj (X13.out.below hb12)
   have bt14:=bt13.bl hb12
   have HM14:=zrj ((HM13.out.below hb12).more hb12.size)
   clear S13 X13 bt13 HM13
   clear hb12 HST
   refine hK.out _ _ bt14 (fun hHeld=>?_)
   clear hK K
   refine tr 5 rfl (fun K hK=>?_)
   go_simp
   have HR:=same_any s3 s3 q1 q2 q3 qa qb qc d1 d2 d3 da db dc U12 HM14.out hO12.m hfi.out.sz hfi.out.sz
   rw[decide_eq_true rfl] at HR
   refine HR.mono ?_
   rintro e Y12 ⟨rfl,hb13⟩
   have S15:=zrj (S14.out.below hb13)
   have X15:=zrj (X14.out.below hb13)
   have bt15:=bt14.bl hb13
   have HM15:=zrj ((HM14.out.below hb13).more hb13.size)
   clear S14 X14 bt14 HM14
   clear hb13 hO12 HR
   refine hK.out _ _ bt15 (fun hHeld=>?_)
   clear hK K
   refine tq 6 ?_
   refine tq 7 ?_
   refine wpAnyH_done (by kernel_rfl) ?_ _
   go_wp2_with fail
   go_roundw
   case rel=>exact⟨n+1,h3,ws3,fs3,RA,vA,by omega,by go_num,S15.out,X15.out,zrj ⟨HFw.out,HL3.out⟩⟩
   case measure=>simp[intOf];omega
  ·obtain rfl:n=l1.length:=by omega
   have HF:=zrj (Sn.all HN.out CH.out hB.out)
   clear Sn Xn
   go_wp2_with fail
   go_ret
   exact⟨rfl,HF.out⟩
end Go.Proofs.YtnnfgchhkekkeaaGreatDoor.followSame
