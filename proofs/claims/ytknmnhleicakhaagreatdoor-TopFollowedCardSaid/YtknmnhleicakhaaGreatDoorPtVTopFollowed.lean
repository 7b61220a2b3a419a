/- Lemmas.
-/
import Derived.Test.YtknmnhleicakhaaGreatDoorPtWatP
set_option linter.all false
set_option maxHeartbeats 16000000
set_option maxRecDepth 100000
namespace Go.Proofs.YtknmnhleicakhaaGreatDoor.topFollowed
open Go.ChangeShapes Go.WideShapes Go.ChangeAt Go.RowKit Go.Joins
open Go.ChangeMaps (open_string)
theorem walk (s0:St) (pj0 pn0 pl0:Option Addr) (cj0 cn0 cl0:Nat) (w:World) (hm0:StM w w.heap.size pj0 pn0 pl0 s0) (hk0:StOk s0) (pq1:Option Addr) (cq1:Nat) (l1:List ReqD) (hel1:Elts w w.heap.size 14 pq1 (l1.map rowQ)) (hok1:∀x∈l1,okQ x) (hl1:l1.length≤9223372036854775807) (n2:Int) (n21 : -9223372036854775808≤n2) (n22:n2≤9223372036854775807) (hT:Tabs w) :
  Calls Tryz.prog 3 #[.agg (stv s0 pj0 pn0 pl0 cj0 cn0 cl0),.slice pq1 l1.length cq1,.int .i64 n2] w fun e w'=>e=.returned (.bool true)/\Below w.heap.size w w':=by
 have b0_:=Blk.new w 26 (stv s0 pj0 pn0 pl0 cj0 cn0 cl0)
 have c0:=(zri w.heap.size w).alloc (zra _) (.cells (stv s0 pj0 pn0 pl0 cj0 cn0 cl0) 26)
 have HM:=zrj hm0
 have HZ:=zrj hk0.sz
 have HT:=zrj hT
 have HEL:=zrj hel1
 have HOK:=zrj hok1
 have HLn:=zrj hl1
 have HW0:=zrj (wrap_succ_ne hl1)
 obtain⟨mw,hmw⟩:∃mw,IntKind.i64.wrap ((l1.length:Int)+1)=mw:=⟨_,rfl⟩
 rw[hmw] at HW0
 have hzs:=uq3
 have hzq:=uq7
 clear hm0 hk0 hT hel1 hok1 hl1 n21 n22
 by_cases hE:uqp s0=0
 rotate_left
 ·have hne:(((uqp s0:Nat):Int) != 0)=true:=by rw[bne_iff_ne];omega
  have HE:=zrj hE
  clear hE
  go_enter Tryz.func3,Tryz.ntmps3
  go_wp2_with(first | (refine uqw (by rfl) _ _ rfl (w.heap.size) rfl _ _ b0_ _ Tryz.underlying26 rfl uqg ?_))
  generalize w.alloc _=W1 at *
  refine(works_any _ (HT.out.below c0)).mono ?_
  rintro e w1 ⟨rfl,hb2⟩
  have b3:=b0_.bl hb2
  have c4:=bthen c0 hb2
  clear b0_ c0 hb2
  go_wp2_with(first | (refine uqw (by rfl) _ _ rfl (w.heap.size) rfl _ _ b3 _ Tryz.underlying26 rfl uqg ?_))
  refine(hnew_bad s0 _ _ _ _ _ _ _ ((HM.out.below c4).more c4.size) HZ.out (HT.out.below c4) HE.out).mono ?_
  rintro e w5 ⟨rfl,hb6⟩
  have b7:=b3.bl hb6
  have c8:=bthen c4 hb6
  clear b3 c4 hb6
  have kx:(w5.alloc (.cells #[.pointer none] 29)).cell? ⟨w5.heap.size,0,none⟩=some (.pointer none):=(Blk.new _ _ _).cell 0
  have cx:=c8.alloc c8.size (.cells #[.pointer none] 29)
  go_wp2_with(first | (refine uqf rfl _ _ _ rfl rfl 29 _ #[.pointer none] rfl hubp_size rfl (one_hubp _) ?_))
  go_ret
  exact⟨rfl,cx⟩
 have HE:=zrj hE
 have F0:=zrj ((uxp s0).1 hE)
 clear hE
 go_enter Tryz.func3,Tryz.ntmps3
 go_wp2_with(first | (refine uqw (by rfl) _ _ rfl (w.heap.size) rfl _ _ b0_ _ Tryz.underlying26 rfl uqg ?_))
 generalize w.alloc _=W1 at *
 refine(works_any _ (HT.out.below c0)).mono ?_
 rintro e w9 ⟨rfl,hb10⟩
 have b11:=b0_.bl hb10
 have c12:=bthen c0 hb10
 clear b0_ c0 hb10
 go_wp2_with(first | (refine uqw (by rfl) _ _ rfl (w.heap.size) rfl _ _ b11 _ Tryz.underlying26 rfl uqg ?_))
 refine(wq7 s0 _ _ _ _ _ _ _ ((HM.out.below c12).more c12.size) HZ.out (HT.out.below c12) HE.out).mono ?_
 rintro e wN ⟨g,sv,fd,ws,rfl,HN_,hbN⟩
 have hB:=zrj c12.size
 have HBS:=zrj b11.lt
 have HN:=zrj HN_
 clear HN_
 have b13:=b11.bl hbN
 have c14:=bthen c12 hbN
 clear b11 c12 hbN
 have CH:=zrj c14
 have BSN:=zrj b13
 have hbH:=zsa wN (.cells #[zse g] 29)
 have S1:=(⟨HN.out,HubC.refl _ _ _ _ _,fun W hW=>HT.out.below (CH.out.trans (hW.mono hB.out)),HN.out.lo.2.2.2⟩:HubS wN wN w9.heap.size g sv fd ws ws (newH s0)).below hbH
 have k1:=Blk.new wN 29 #[zse g]
 have hs1:=hbH.size
 have kc:(wN.alloc (.cells #[zse g] 29)).cell? ⟨wN.heap.size,0,none⟩=some (zse g):=k1.cell 0
 clear c14 b13 hbH
 go_wp2_with(first | (refine uqf rfl _ _ _ rfl rfl 29 _ #[zse g] rfl hubp_size rfl (one_hubp _) ?_))
 generalize wN.alloc _=wH at *
 refine(xxt wH).mono ?_
 rintro e w1 ⟨f,fa,rfl,hf0,hf1,M1,hb1⟩
 have S2:=S1.below hb1
 have k2:=k1.bl hb1
 have X2:=(⟨by rw[folOf_nil];exact M1,fun k hk ho=>by have:=(S1.H.own_ge ho).2;have h1:wH.heap.size≤k:=hk.1;omega,⟨by omega,by omega⟩,fun x hx=>by cases hx⟩:FolN w1 wN.heap.size g sv fd ws f fa _ [] _)
 have HS2:=zrj S2
 have HX2:=zrj X2
 have HK2:=zrj k2
 have hsz1:=hb1.size
 have HSZ:=zrj (show wN.heap.size≤w1.heap.size by omega)
 clear S1 k1 kc hs1 hf0 hf1 M1 hb1 S2 X2 k2 hsz1
 go_wp2_with fail
 refine(xxt w1).mono ?_
 rintro e w2 ⟨f2,fa2,rfl,hf0,hf1,M2,hb2⟩
 have T2:=zrj (show TwoE w2 wN w9.heap.size g sv fd ws wN.heap.size f fa f2 fa2 (newH s0) [] [] from⟨ws,_,_,_,_,HS2.out.below hb2,HX2.out.below hb2,⟨by rw[folOf_nil];exact M2,fun k hk ho=>by have:=(HS2.out.H.own_ge ho).2;have h1:w1.heap.size≤k:=hk.1;omega,⟨zrc HSZ.out hf0,zrc HSZ.out hf1⟩,fun x hx=>by cases hx⟩,fun k h1 h2=>by have h3:k<w1.heap.size:=h1.2;have h4:w1.heap.size≤k:=h2.1;omega,HK2.out.below hb2 HK2.out.lt⟩)
 have HBy:=zrj (xxc qWat w2 reqSz_wat T2.out.tabs)
 rw[show decide (reqE qWat=0)=true from by rw[xwl];rfl] at HBy
 have I0:=zrj (TI.new F0.out)
 have hqb:uxd qWat=encs [reqFr qWat]:=by unfold uxd;rw[if_pos xwl]
 have HQB:=zrj (show uxd qWat=encs [reqFr qWat]/\(uxd qWat).length≤130 from⟨hqb,uw1 qWat⟩)
 clear HS2 HX2 HK2 HSZ hf0 hf1 M2 hb2 hqb
 go_wp2_with fail
 refine HBy.out.mono ?_
 rintro e w3 ⟨rfl,hb3⟩
 have T3:=zrj (T2.out.below hb3)
 clear T2 hb3 HBy
 go_wp2_with fail
 refine(rest_ne n2 mw _ HW0.out).mono ?_
 rintro e w3' ⟨⟨later,rfl⟩,rfl⟩
 have I1:=I0.out.lookA
 have HP:=tpush_any T3.out (wwt (k:=6) I0.out.W I0.out.A.v I0.out.len (Nat.zero_le _) (by decide) (uxd qWat) HQB.out.2) (out:=(newH s0).out 6 (uxd qWat)) (by rw[HQB.out.1];exact(I0.out.A.look I0.out.W (by decide)).1) (by rw[HQB.out.1];exact(I0.out.A.look I0.out.W (by decide)).2.1) (by rw[HQB.out.1];exact(I0.out.A.look I0.out.W (by decide)).2.2.1)
 rw[← HQB.out.1] at I1
 rw[List.nil_append] at HP I1
 obtain⟨oa,I1⟩:=I1
 have HI1:=zrj I1
 have HP1:=zrj HP
 clear HP I1 I0 T3
 generalize(newH s0).send 6 (uxd qWat)=h1 at *
 generalize(newH s0).out 6 (uxd qWat)=o1 at *
 go_wp2_with fail
 refine HP1.out.mono ?_
 rintro e w4 ⟨rfl,_,T4⟩
 clear HP1
 go_wp2_with fail
 go_loopw [63] (fun i wr=>∃(n:Nat) (h:HubD) (xa xb:List Fr) (bb oa ob:Bool),n≤l1.length/\i=.int .i64 n/\TwoE wr wN w9.heap.size g sv fd ws wN.heap.size f fa f2 fa2 h xa xb/\Hid (TI h xa xb true oa bb ob)) (fun i _=>l1.length-(intOf i).toNat)
 case atStart=>exact⟨0,h1,o1,[],false,oa,false,Nat.zero_le _,rfl,T4,HI1⟩
 case round =>
  obtain⟨n,h,xa,xb,bb,oa,ob,hn,rfl,Tn,In⟩:=hrel
  clear T4 HI1
  by_cases hlt:n<l1.length
  ·have hx:l1[n]?=some l1[n]:=zrd hlt
   have hq:=HOK.out l1[n] (List.getElem_mem hlt)
   generalize l1[n]=q at *
   have cc:=Tn.all HN.out CH.out hB.out
   obtain⟨a,rfl,hab,_,hat⟩:=(HEL.out.below cc).at_ (k:=n) (r:=rowQ q) (by rw[zrg,hx];rfl)
   have HSq:=zrj (ReqSz.of hq)
   have hb1:=zsa wr (.cells (qv q) 44)
   have bq:=Blk.new wr 44 (qv q)
   have T5:=Tn.below hb1
   clear hx hq hab cc hb1 Tn
   go_upto_region 15 with(first | (refine uqe rfl _ _ rfl (a.add (n*14)) rfl [Value.int .i64 q.kind,Value.string q.job.name,Value.int .i64 q.job.prio,Value.int .i64 q.job.need,Value.int .i64 q.job.tries,Value.string q.job.tag,Value.string q.node.name,Value.int .i64 q.node.room,Value.string q.node.zone,Value.string q.lease.job,Value.string q.lease.node,Value.int .i64 q.lease.till,Value.string q.name,Value.int .i64 q.n] _ hat Tryz.underlying44 rfl uqd ?_) | (refine uqf rfl _ _ _ rfl rfl 44 _ (qv q) rfl uqd rfl (by simp[Value.oneCell']) ?_))
   generalize wr.alloc _=W2 at *
   generalize wr.heap.size=gq at *
   clear hat
   try simp only[Act.put]
   go_cut [77] (fun v wx=>v=.bool false/\Blk wx gq 44 (qv q)/\∃(h2:HubD) (xb2:List Fr) (bb2 ob2:Bool),TwoE wx wN w9.heap.size g sv fd ws wN.heap.size f fa f2 fa2 h2 xa xb2/\Hid (TI h2 xa xb2 true oa bb2 ob2))
   case first =>
    by_cases hL:(n:Int)=later
    ·have e1:((n:Int) == later)=true:=by rw[beq_iff_eq];exact hL
     have I1:=In.out.lookB
     have HP:=tpush_any T5.swap (wwt (k:=7) In.out.W In.out.B.v In.out.len (Nat.zero_le _) (by decide) (uxd qWat) HQB.out.2) (out:=h.out 7 (uxd qWat)) (by rw[HQB.out.1];exact(In.out.B.look In.out.W (by decide)).1) (by rw[HQB.out.1];exact(In.out.B.look In.out.W (by decide)).2.1) (by rw[HQB.out.1];exact(In.out.B.look In.out.W (by decide)).2.2.1)
     rw[← HQB.out.1] at I1
     obtain⟨ob2,I1⟩:=I1
     have HI1:=zrj I1
     have HP1:=zrj HP
     have HBq:=zrj bq
     clear HP I1 T5 hL bq
     go_wp2_with fail
     refine HP1.out.mono ?_
     rintro e w5 ⟨rfl,K5,T6⟩
     go_wp2_with fail
     go_meet
     exact⟨rfl,K5 _ _ _ HBq.out (by decide) (by decide) (by decide) (by decide) (by decide),_,_,true,ob2,T6.swap,HI1⟩
    ·have e1:((n:Int) == later)=false:=by rw[zrf];exact hL
     have HBq:=zrj bq
     have HT5:=zrj T5
     clear hL bq T5
     go_wp2_with fail
     go_meet
     exact⟨rfl,HBq.out,h,xb,bb,ob,HT5.out,In⟩
   case rest =>
    obtain⟨rfl,bq,h2,xb2,bb2,ob2,T6,I6⟩:=hcut
    clear In
    have HBy:=zrj (xxc q _ HSq.out T6.tabs)
    obtain⟨bok,hbok⟩:∃b,decide (reqE q=0)=b:=⟨_,rfl⟩
    rw[hbok] at HBy
    have HBO:=zrj hbok
    have HT6:=zrj T6
    clear hbok T6
    go_wp2_with(first | (refine uqw (by rfl) _ _ rfl gq rfl _ _ bq _ Tryz.underlying44 rfl uqd ?_))
    refine HBy.out.mono ?_
    rintro e w7 ⟨rfl,hb7⟩
    have T7:=HT6.out.below hb7
    clear HT6 HBy hb7 bq
    go_upto_if 83 with fail
    go_cut [] (fun wx=>∃h3,TwoE wx wN w9.heap.size g sv fd ws wN.heap.size f fa f2 fa2 h3 xa xb2/\Hid (TM h3 xa xb2 true oa bb2 ob2))
    case first =>
     cases bok
     ·have HT7:=zrj T7
      clear T7
      go_wp2_with fail
      go_meet
      exact⟨h2,HT7.out,zrj I6.out.mid⟩
     ·have hq0:reqE q=0:=of_decide_eq_true HBO.out
      have kg:=T7.at_
      have HS:=zrj (xys T7 (wwt (k:=0) I6.out.W I6.out.A.v I6.out.len (Nat.zero_le _) (by decide) (uxd q) (uw1 q)))
      have HM7:=zrj (I6.out.sent hq0)
      clear T7 hq0
      go_wp2_with fail
      refine HS.out.mono ?_
      rintro e w8 ⟨rfl,_,T8⟩
      go_wp2_with fail
      go_meet
      exact⟨_,T8,HM7⟩
    case rest =>
     obtain⟨h3,T8,M8⟩:=hcut
     clear T7 I6
     have HP8:=zrj (tpush_any T8 (sendsNil (k:=6) M8.out.W M8.out.A.f.v M8.out.L (zra _) (by decide)) M8.out.A.g M8.out.A.z (by have:=M8.out.L 6;show h3.len 6≤_;omega))
     have M9:=zrj M8.out.outA
     clear T8
     go_wp2_with fail
     refine HP8.out.mono ?_
     rintro e w9 ⟨rfl,_,T9⟩
     have HP9:=zrj (tpush_any T9.swap (sendsNil (k:=7) M9.out.W M9.out.B.f.v M9.out.L (zra _) (by decide)) M9.out.B.g M9.out.B.z (by have:=M9.out.L 7;show(h3.flush 6).len 7≤_;omega))
     have I9:=zrj (M9.out.outB M8.out.A.f)
     clear T9 HP8
     go_wp2_with fail
     refine HP9.out.mono ?_
     rintro e w10 ⟨rfl,_,T10⟩
     have HT10:=zrj T10.swap
     clear T10 HP9
     have hl9:=HLn.out
     go_wp2_with fail
     go_roundw
     case rel =>
      exact⟨n+1,_,_,_,bb2,oa,ob2,by omega,by go_num,HT10.out,I9⟩
     case measure =>
      simp[intOf]
      omega
  ·obtain rfl:n=l1.length:=by omega
   go_upto_region 23 with fail
   try simp only[Act.put]
   go_cut [108] (fun v wx=>v=.bool false/\∃(h2:HubD) (xb2:List Fr) (bb2 ob2:Bool),TwoE wx wN w9.heap.size g sv fd ws wN.heap.size f fa f2 fa2 h2 xa xb2/\Hid (TI h2 xa xb2 true oa bb2 ob2))
   case first =>
    by_cases hL:later=(l1.length:Int)
    ·have e1:(later == (l1.length:Int))=true:=by rw[beq_iff_eq];exact hL
     have I1:=In.out.lookB
     have HP:=tpush_any Tn.swap (wwt (k:=7) In.out.W In.out.B.v In.out.len (Nat.zero_le _) (by decide) (uxd qWat) HQB.out.2) (out:=h.out 7 (uxd qWat)) (by rw[HQB.out.1];exact(In.out.B.look In.out.W (by decide)).1) (by rw[HQB.out.1];exact(In.out.B.look In.out.W (by decide)).2.1) (by rw[HQB.out.1];exact(In.out.B.look In.out.W (by decide)).2.2.1)
     rw[← HQB.out.1] at I1
     obtain⟨ob2,I1⟩:=I1
     have HI1:=zrj I1
     have HP1:=zrj HP
     clear HP I1 Tn hL
     go_wp2_with fail
     refine HP1.out.mono ?_
     rintro e w5 ⟨rfl,_,T6⟩
     go_wp2_with fail
     go_meet
     exact⟨rfl,_,_,true,ob2,T6.swap,HI1⟩
    ·have e1:(later == (l1.length:Int))=false:=by rw[zrf];exact hL
     have HTn:=zrj Tn
     clear hL Tn
     go_wp2_with fail
     go_meet
     exact⟨rfl,h,xb,bb,ob,HTn.out,In⟩
   case rest =>
    obtain⟨rfl,h2,xb2,bb2,ob2,T6,I6⟩:=hcut
    clear In Tn
    have cu:=T6.under HN.out
    have bs0:=BSN.out.below cu HBS.out
    have ct:=T6.all HN.out CH.out hB.out
    obtain⟨wsE,Ra,va,Rb,vb,SE,XE,YE,_,KE⟩:=T6
    have HQa:=folState_any XE.M (folOf_ok _)
    rw[show(folOf xa).st=(if oa then some h2.srv.st else none) from I6.out.A.st] at HQa
    have HQA:=zrj HQa
    have hsa:=stOr_sz (o:=(if oa then some h2.srv.st else none)) (by rw[← I6.out.A.st];exact folOf_ok _)
    have hsb:=stOr_sz (o:=(if ob2 then some h2.srv.st else none)) (by rw[← I6.out.B.st];exact folOf_ok _)
    have HSA:=zrj (show StSz (stOr (if oa then some h2.srv.st else none))/\StSz (stOr (if ob2 then some h2.srv.st else none)) from⟨hsa,hsb⟩)
    have HSE:=zrj SE
    have HYE:=zrj YE
    have FE:=zrj I6.out.A.v.1
    have CT:=zrj ct
    have BS:=zrj bs0
    have HKE:=zrj KE
    clear HQa hsa hsb SE XE YE cu ct bs0 KE
    obtain⟨sa,hsaE⟩:∃sa,stOr (if oa then some h2.srv.st else none)=sa:=⟨_,rfl⟩
    obtain⟨sb,hsbE⟩:∃sb,stOr (if ob2 then some h2.srv.st else none)=sb:=⟨_,rfl⟩
    obtain⟨ia,hia⟩:∃ia,(if oa then some h2.srv.st else none).isSome=ia:=⟨_,rfl⟩
    obtain⟨ib,hib⟩:∃ib,(if ob2 then some h2.srv.st else none).isSome=ib:=⟨_,rfl⟩
    rw[hsaE,hia] at HQA
    rw[hsaE,hsbE] at HSA
    have HEQ:=zrj (show(oa=ia/\(ia=true→sa=h2.srv.st))/\(ob2=ib/\(ib=true→sb=h2.srv.st)) from⟨by subst hia hsaE;cases oa <;> simp[stOr],by subst hib hsbE;cases ob2 <;> simp[stOr]⟩)
    have HIB:=zrj (show stOr (if ob2 then some h2.srv.st else none)=sb/\(if ob2 then some h2.srv.st else none).isSome=ib from⟨hsbE,hib⟩)
    clear hsaE hsbE hia hib
    go_wp2_with fail
    refine HQA.out.mono ?_
    rintro e wA ⟨q1,q2,q3,d1,d2,d3,rfl,hmA,hbA⟩
    have HSE_1:=zrj (HSE.out.below hbA)
    have HYE_1:=zrj (HYE.out.below hbA)
    have CT_1:=zrj (CT.out.trans (hbA.mono CT.out.size))
    have BS_1:=zrj (BS.out.below hbA BS.out.lt)
    have HKE_1:=zrj (HKE.out.below hbA HKE.out.lt)
    clear HSE HYE CT BS HKE hbA
    have hb1:=zsa wA (.cells (stv sa q1 q2 q3 d1 d2 d3) 26)
    have BX:=zrj (Blk.new wA 26 (stv sa q1 q2 q3 d1 d2 d3))
    have MX:=zrj ((hmA.below hb1).more hb1.size)
    clear hmA
    have HSE_2:=zrj (HSE_1.out.below hb1)
    have HYE_2:=zrj (HYE_1.out.below hb1)
    have CT_2:=zrj (CT_1.out.trans (hb1.mono CT_1.out.size))
    have BS_2:=zrj (BS_1.out.below hb1 BS_1.out.lt)
    have HKE_2:=zrj (HKE_1.out.below hb1 HKE_1.out.lt)
    clear HSE_1 HYE_1 CT_1 BS_1 HKE_1 hb1
    have HQb:=folState_any HYE_2.out.M (folOf_ok _)
    rw[show(folOf xb2).st=(if ob2 then some h2.srv.st else none) from I6.out.B.st,HIB.out.1,HIB.out.2] at HQb
    have HQB2:=zrj HQb
    clear HQb HIB HQA HYE_2
    go_upto_region 27 with(first | (refine uqf rfl _ _ _ rfl rfl 26 _ (stv sa q1 q2 q3 d1 d2 d3) rfl uqg rfl (ux8 _ _ _ _ _ _ _ _ _ _) ?_))
    generalize wA.alloc _=wB at *
    generalize wA.heap.size=gx at *
    go_wp2_with fail
    refine HQB2.out.mono ?_
    rintro e wC ⟨r1,r2,r3,e1,e2,e3,rfl,hmB,hbB⟩
    have HSE_3:=zrj (HSE_2.out.below hbB)
    have CT_3:=zrj (CT_2.out.trans (hbB.mono CT_2.out.size))
    have BS_3:=zrj (BS_2.out.below hbB BS_2.out.lt)
    have HKE_3:=zrj (HKE_2.out.below hbB HKE_2.out.lt)
    have BX_3:=zrj (BX.out.below hbB BX.out.lt)
    have MX_3:=zrj ((MX.out.below hbB).more hbB.size)
    clear HSE_2 CT_2 BS_2 HKE_2 BX MX hbB
    have hb1:=zsa wC (.cells (stv sb r1 r2 r3 e1 e2 e3) 26)
    have BY:=zrj (Blk.new wC 26 (stv sb r1 r2 r3 e1 e2 e3))
    have MY:=zrj ((hmB.below hb1).more hb1.size)
    clear hmB
    have HSE_4:=zrj (HSE_3.out.below hb1)
    have CT_4:=zrj (CT_3.out.trans (hb1.mono CT_3.out.size))
    have BS_4:=zrj (BS_3.out.below hb1 BS_3.out.lt)
    have HKE_4:=zrj (HKE_3.out.below hb1 HKE_3.out.lt)
    have BX_4:=zrj (BX_3.out.below hb1 BX_3.out.lt)
    have MX_4:=zrj ((MX_3.out.below hb1).more hb1.size)
    clear HSE_3 CT_3 BS_3 HKE_3 BX_3 MX_3 hb1
    go_upto_region 28 with(first | (refine uqf rfl _ _ _ rfl rfl 26 _ (stv sb r1 r2 r3 e1 e2 e3) rfl uqg rfl (ux8 _ _ _ _ _ _ _ _ _ _) ?_))
    generalize wC.alloc _=wD at *
    generalize wC.heap.size=gy at *
    have kg:=HKE_4.out.cell 0
    have HST:=zrj (xx4 HSE_4.out.H FE.out)
    obtain⟨st,hst⟩:∃st,h2.srv.st=st:=⟨_,rfl⟩
    rw[hst] at HST HEQ FE
    go_wp2_with fail
    refine HST.out.mono ?_
    rintro e wE ⟨t1,t2,t3,k1,k2,k3,rfl,hO,hbE⟩
    have hmT:=hO.m
    clear hO kg HST hst
    have HSE_5:=zrj (HSE_4.out.below hbE)
    have CT_5:=zrj (CT_4.out.trans (hbE.mono CT_4.out.size))
    have BS_5:=zrj (BS_4.out.below hbE BS_4.out.lt)
    have HKE_5:=zrj (HKE_4.out.below hbE HKE_4.out.lt)
    have BX_5:=zrj (BX_4.out.below hbE BX_4.out.lt)
    have MX_5:=zrj ((MX_4.out.below hbE).more hbE.size)
    have BY_5:=zrj (BY.out.below hbE BY.out.lt)
    have MY_5:=zrj ((MY.out.below hbE).more hbE.size)
    clear HSE_4 CT_4 BS_4 HKE_4 BX_4 MX_4 BY MY hbE
    have hb1:=zsa wE (.cells (stv st t1 t2 t3 k1 k2 k3) 26)
    have BT:=zrj (Blk.new wE 26 (stv st t1 t2 t3 k1 k2 k3))
    have MT:=zrj ((hmT.below hb1).more hb1.size)
    clear hmT
    have HSE_6:=zrj (HSE_5.out.below hb1)
    have CT_6:=zrj (CT_5.out.trans (hb1.mono CT_5.out.size))
    have BS_6:=zrj (BS_5.out.below hb1 BS_5.out.lt)
    have HKE_6:=zrj (HKE_5.out.below hb1 HKE_5.out.lt)
    have BX_6:=zrj (BX_5.out.below hb1 BX_5.out.lt)
    have MX_6:=zrj ((MX_5.out.below hb1).more hb1.size)
    have BY_6:=zrj (BY_5.out.below hb1 BY_5.out.lt)
    have MY_6:=zrj ((MY_5.out.below hb1).more hb1.size)
    clear HSE_5 CT_5 BS_5 HKE_5 BX_5 MX_5 BY_5 MY_5 hb1
    go_upto_region 29 with(first | (refine uqf rfl _ _ _ rfl rfl 26 _ (stv st t1 t2 t3 k1 k2 k3) rfl uqg rfl (ux8 _ _ _ _ _ _ _ _ _ _) ?_))
    generalize wE.alloc _=wF at *
    generalize wE.heap.size=gt at *
    by_cases hbo:ia=true/\ib=true
    rotate_left
    ·have hor:ia=false\/ib=false:=by cases ia <;> cases ib <;> simp_all
     have HL:=zrj (large_any s0 pj0 pn0 pl0 cj0 cn0 cl0 wF ((HM.out.below CT_6.out).more CT_6.out.size) HZ.out (HT.out.below CT_6.out))
     have HL2:=zrj (fun(W:World) (hW:Below wF.heap.size wF W)=>large_any st t1 t2 t3 k1 k2 k3 W ((MT.out.below hW).more hW.size) FE.out.sz (HT.out.below (CT_6.out.trans (hW.mono CT_6.out.size))))
     clear hbo
     have bx_:=BX_6.out
     have by_:=BY_6.out
     have bt_:=BT.out
     have bs_:=BS_6.out
     have HC:=zrj CT_6.out
     have HBT:=zrj bt_
     rcases hor with rfl | rfl
     ·go_wp2_with(first | (refine uqw (by rfl) _ _ rfl gx rfl _ _ bx_ _ Tryz.underlying26 rfl uqg ?_) | (refine uqw (by rfl) _ _ rfl gy rfl _ _ by_ _ Tryz.underlying26 rfl uqg ?_) | (refine uqw (by rfl) _ _ rfl gt rfl _ _ bt_ _ Tryz.underlying26 rfl uqg ?_) | (refine uqw (by rfl) _ _ rfl w.heap.size rfl _ _ bs_ _ Tryz.underlying26 rfl uqg ?_))
      refine HL.out.mono ?_
      rintro e wG ⟨⟨b1,rfl⟩,hbG⟩
      have bt2:=HBT.out.below hbG HBT.out.lt
      have HLt:=zrj (HL2.out _ hbG)
      have cG:=HC.out.trans (hbG.mono HC.out.size)
      clear bx_ by_ bt_ bs_ hbG
      cases b1
      ·go_wp2_with(first | (refine uqw (by rfl) _ _ rfl gt rfl _ _ bt2 _ Tryz.underlying26 rfl uqg ?_))
       refine HLt.out.mono ?_
       rintro e wI ⟨⟨b2,rfl⟩,hbI⟩
       cases b2
       ·go_wp2_with fail
        go_ret
        exact⟨rfl,bthen cG hbI⟩
       ·go_wp2_with fail
        go_ret
        exact⟨rfl,bthen cG hbI⟩
      ·go_wp2_with fail
       go_ret
       exact⟨rfl,cG⟩
     ·cases ia
      ·go_wp2_with(first | (refine uqw (by rfl) _ _ rfl gx rfl _ _ bx_ _ Tryz.underlying26 rfl uqg ?_) | (refine uqw (by rfl) _ _ rfl gy rfl _ _ by_ _ Tryz.underlying26 rfl uqg ?_) | (refine uqw (by rfl) _ _ rfl gt rfl _ _ bt_ _ Tryz.underlying26 rfl uqg ?_) | (refine uqw (by rfl) _ _ rfl w.heap.size rfl _ _ bs_ _ Tryz.underlying26 rfl uqg ?_))
       refine HL.out.mono ?_
       rintro e wG ⟨⟨b1,rfl⟩,hbG⟩
       have bt2:=HBT.out.below hbG HBT.out.lt
       have HLt:=zrj (HL2.out _ hbG)
       have cG:=HC.out.trans (hbG.mono HC.out.size)
       clear bx_ by_ bt_ bs_ hbG
       cases b1
       ·go_wp2_with(first | (refine uqw (by rfl) _ _ rfl gt rfl _ _ bt2 _ Tryz.underlying26 rfl uqg ?_))
        refine HLt.out.mono ?_
        rintro e wI ⟨⟨b2,rfl⟩,hbI⟩
        cases b2
        ·go_wp2_with fail
         go_ret
         exact⟨rfl,bthen cG hbI⟩
        ·go_wp2_with fail
         go_ret
         exact⟨rfl,bthen cG hbI⟩
       ·go_wp2_with fail
        go_ret
        exact⟨rfl,cG⟩
      ·go_wp2_with(first | (refine uqw (by rfl) _ _ rfl gx rfl _ _ bx_ _ Tryz.underlying26 rfl uqg ?_) | (refine uqw (by rfl) _ _ rfl gy rfl _ _ by_ _ Tryz.underlying26 rfl uqg ?_) | (refine uqw (by rfl) _ _ rfl gt rfl _ _ bt_ _ Tryz.underlying26 rfl uqg ?_) | (refine uqw (by rfl) _ _ rfl w.heap.size rfl _ _ bs_ _ Tryz.underlying26 rfl uqg ?_))
       refine HL.out.mono ?_
       rintro e wG ⟨⟨b1,rfl⟩,hbG⟩
       have bt2:=HBT.out.below hbG HBT.out.lt
       have HLt:=zrj (HL2.out _ hbG)
       have cG:=HC.out.trans (hbG.mono HC.out.size)
       clear bx_ by_ bt_ bs_ hbG
       cases b1
       ·go_wp2_with(first | (refine uqw (by rfl) _ _ rfl gt rfl _ _ bt2 _ Tryz.underlying26 rfl uqg ?_))
        refine HLt.out.mono ?_
        rintro e wI ⟨⟨b2,rfl⟩,hbI⟩
        cases b2
        ·go_wp2_with fail
         go_ret
         exact⟨rfl,bthen cG hbI⟩
        ·go_wp2_with fail
         go_ret
         exact⟨rfl,bthen cG hbI⟩
       ·go_wp2_with fail
        go_ret
        exact⟨rfl,cG⟩
    obtain⟨rfl,rfl⟩:=hbo
    have ea:=HEQ.out.1.2 rfl
    have eb:=HEQ.out.2.2 rfl
    have HR1:=same_any sa st q1 q2 q3 t1 t2 t3 d1 d2 d3 k1 k2 k3 wF MX_6.out MT.out HSA.out.1 FE.out.sz
    rw[decide_eq_true ea] at HR1
    have HS1:=zrj HR1
    clear HR1
    have HR2:=fun(W:World) (hW:Below wF.heap.size wF W)=>same_any sb st r1 r2 r3 t1 t2 t3 e1 e2 e3 k1 k2 k3 W ((MY_6.out.below hW).more hW.size) ((MT.out.below hW).more hW.size) HSA.out.2 FE.out.sz
    simp only[decide_eq_true eb] at HR2
    have HS2:=zrj HR2
    have HC:=zrj CT_6.out
    clear HR2 ea eb HEQ
    have bx_:=BX_6.out
    have by_:=BY_6.out
    have bt_:=BT.out
    have bs_:=BS_6.out
    have HBT:=zrj bt_
    have HBY:=zrj by_
    go_wp2_with(first | (refine uqw (by rfl) _ _ rfl gx rfl _ _ bx_ _ Tryz.underlying26 rfl uqg ?_) | (refine uqw (by rfl) _ _ rfl gy rfl _ _ by_ _ Tryz.underlying26 rfl uqg ?_) | (refine uqw (by rfl) _ _ rfl gt rfl _ _ bt_ _ Tryz.underlying26 rfl uqg ?_) | (refine uqw (by rfl) _ _ rfl w.heap.size rfl _ _ bs_ _ Tryz.underlying26 rfl uqg ?_))
    refine HS1.out.mono ?_
    rintro e wG ⟨rfl,hbG⟩
    have bt2:=HBT.out.below hbG HBT.out.lt
    have by2:=HBY.out.below hbG HBY.out.lt
    have HLt:=zrj (HS2.out _ hbG)
    have cG:=HC.out.trans (hbG.mono HC.out.size)
    clear bx_ by_ bt_ bs_ hbG
    go_wp2_with(first | (refine uqw (by rfl) _ _ rfl gt rfl _ _ bt2 _ Tryz.underlying26 rfl uqg ?_) | (refine uqw (by rfl) _ _ rfl gy rfl _ _ by2 _ Tryz.underlying26 rfl uqg ?_))
    refine HLt.out.mono ?_
    rintro e wI ⟨rfl,hbI⟩
    go_wp2_with fail
    go_ret
    exact⟨rfl,bthen cG hbI⟩
end Go.Proofs.YtknmnhleicakhaaGreatDoor.topFollowed
