/- Lemmas.
-/
import Derived.Test.YtnnfgchhkekkeacGreatDoorPvFactT
import Derived.Test.YtnnfgchhkekkeacGreatDoorPvCuts
import Derived.Test.YtnnfgchhkekkeacGreatDoorPvUpBx
set_option linter.all false
set_option maxHeartbeats 16000000
set_option maxRecDepth 100000
namespace Go.Proofs.YtnnfgchhkekkeacGreatDoor.topVersions
open Go.ChangeShapes Go.WideShapes Go.ChangeAt Go.RowKit Go.Joins
open Go.ChangeMaps (open_string)
theorem fitsR_fineE {v:Int} {s:St} (hc:uqr s=0) (hv:1≤v/\v≤3):fitsR s v=(fitsB s v,0):=by
 rw[fitsR_in s v hv,if_neg (by rw[hc];simp)]
theorem encR_fits {v:Int} {s:St} (h:(encR v s).2=0):fitsB s v=true:=by
 obtain⟨_,_,hc,hv⟩:=encR_ok h
 unfold encR at h
 rw[fitsR_fineE hc hv] at h
 cases hf:fitsB s v
 ·rw[hf] at h;simp at h
 ·rfl
theorem walk (s:St) (p1 p2 p3:Option Addr) (c1 c2 c3:Nat) (w:World) (hm:StM w w.heap.size p1 p2 p3 s) (hk:StOk s) (n:Int) (n1 : -9223372036854775808≤n) (n2:n≤9223372036854775807) (pq1:Option Addr) (cq1:Nat) (l1:List ReqD) (hel1:Elts w w.heap.size 14 pq1 (l1.map rowQ)) (hok1:∀x∈l1,okQ x) (hl1:l1.length≤9223372036854775807) (hT:Tabs w) :
  Calls Tryz.prog 3 #[.agg (stv s p1 p2 p3 c1 c2 c3),.int .i64 n,.slice pq1 l1.length cq1] w fun e w'=>e=.returned (.bool true)/\Below w.heap.size w w':=by
 have b0_:=Blk.new w 26 (stv s p1 p2 p3 c1 c2 c3)
 have c0:=(zri w.heap.size w).alloc (zra _) (.cells (stv s p1 p2 p3 c1 c2 c3) 26)
 have hz:=hk.sz
 have h30:=Int.emod_nonneg n (show(3:Int)≠0 by decide)
 have h33:=Int.emod_lt_of_pos n (show(0:Int)<3 by decide)
 have HR:=zrj (fun(W:World)=>rest_any n 3 W (by decide) (by decide))
 generalize n % 3=m at *
 obtain⟨v,rfl⟩:∃v:Nat,m=(v:Int)-1:=⟨(m+1).toNat,by omega⟩
 have hvv:1≤v/\v≤3:=by omega
 have HM:=zrj hm
 have HZ:=zrj hz
 have HT:=zrj hT
 have HEL:=zrj hel1
 have HOK:=zrj hok1
 have hzs:=uq4
 have hzq:=uq3
 have hza:=wq1
 have HE':=zrj (fun(W:World) (hW:Below w.heap.size w W)=>vxv s (v:Int) p1 p2 p3 c1 c2 c3 W ((hm.below hW).more hW.size) hz (hT.below hW))
 have HU':=zrj (fun(W:World) (hW:Below w.heap.size w W)=>upState_any s (v:Int) 3 p1 p2 p3 c1 c2 c3 W ((hm.below hW).more hW.size) hz (hT.below hW))
 clear hm hk hz hT n1 n2 hel1 hok1 h30 h33
 by_cases h0:(encR (v:Int) s).2=0
 rotate_left
 ·have hne:(((encR (v:Int) s).2:Int) != 0)=true:=by rw[bne_iff_ne];omega
  have he:=HE'.out
  rw[encR_bad h0] at he
  have HE2:=zrj he
  have hemp:((bstr []).toList == (ByteArray.mk #[]).toList)=true:=by rw[show bstr []=ByteArray.mk #[] from rfl];simp
  have hemp3:(bstr []).toList.isEmpty=true:=by rw[vzi];rfl
  generalize(encR (v:Int) s).2=ee at *
  clear h0 HE' HU' he
  go_enter Tryz.func3,Tryz.ntmps3
  go_wp2_with(first | (refine uq0 (by rfl) _ _ rfl (w.heap.size) rfl _ _ b0_ _ Tryz.underlying26 rfl uqg ?_))
  generalize w.alloc _=W1 at *
  refine(works_any _ (HT.out.below c0)).mono ?_
  rintro e w1 ⟨rfl,hb2⟩
  have b3:=b0_.bl hb2
  have c4:=bthen c0 hb2
  clear b0_ c0 hb2
  go_wp2_with(first | (refine uq0 (by rfl) _ _ rfl (w.heap.size) rfl _ _ b3 _ Tryz.underlying26 rfl uqg ?_))
  refine(HR.out _).mono ?_
  rintro e w5 ⟨rfl,rfl⟩
  go_wp2_with(first | (refine uq0 (by rfl) _ _ rfl (w.heap.size) rfl _ _ b3 _ Tryz.underlying26 rfl uqg ?_))
  refine(HE2.out _ c4).mono ?_
  rintro e w6 ⟨rfl,hb7⟩
  have b8:=b3.bl hb7
  have c9:=bthen c4 hb7
  clear b3 c4 hb7
  go_wp2_with(first | (refine uq0 (by rfl) _ _ rfl (w.heap.size) rfl _ _ b8 _ Tryz.underlying26 rfl uqg ?_))
  go_ret
  exact⟨by simp,c9⟩
 have hf:=encR_fits h0
 obtain⟨h1,hok,hc,-⟩:=encR_ok h0
 have hF:=(uxk s).1 hc
 have hl:=encS_len hok
 have hdec:=decT_enc hok hc (by omega)
 have hFt:=hF.upTo v (3-v)
 have hct:=(uxk _).2 hFt
 have het:=wk2 hct
 have hub:upBR (encS (v:Int) s) (v:Int) 3=(encS 3 (upTo s v (3-v)),0):=by
  unfold upBR
  rw[decide_eq_true (show 1≤(v:Int)/\(v:Int)≤3/\(3:Int)≤3 by omega),if_neg (by simp),hdec,if_neg (by simp),show((v:Int)).toNat=v by omega,show((3:Int)-(v:Int)).toNat=3-v by omega,het]
 have hup:=upR_of (a:=(v:Int)) (b:=3) (by omega) hF hf
 rw[show((v:Int)).toNat=v by omega,show((3:Int)-(v:Int)).toNat=3-v by omega] at hup
 have hd3:=decT_enc3 hct
 have hl3:=wy0 hct
 have he:=HE'.out
 rw[h1] at he
 have HE2:=zrj he
 have HUB:=zrj hub
 have HUP:=zrj hup
 have HD3:=zrj hd3
 have HFT:=zrj hFt
 have HCT:=zrj hct
 generalize encS (v:Int) s=out at *
 generalize encS 3 (upTo s v (3-v))=out3 at *
 generalize upTo s v (3-v)=tt at *
 have hsz:(bstr out).size≤20000:=by rw[uq2];omega
 have hsz3:(bstr out3).size≤20000:=by rw[uq2];omega
 clear h0 hf h1 hok hc hF hl hdec hFt het hub hup he HE' hct hd3 hl3
 have HO:=zrj (uqx out)
 have HO3:=zrj (uqx out3)
 generalize bstr out=so at *
 generalize hso3:bstr out3=so3 at *
 have HS3:=zrj hso3
 clear hso3
 go_enter Tryz.func3,Tryz.ntmps3
 go_wp2_with(first | (refine uq0 (by rfl) _ _ rfl (w.heap.size) rfl _ _ b0_ _ Tryz.underlying26 rfl uqg ?_))
 generalize w.alloc _=W1 at *
 refine(works_any _ (HT.out.below c0)).mono ?_
 rintro e w10 ⟨rfl,hb11⟩
 have b12:=b0_.bl hb11
 have c13:=bthen c0 hb11
 clear b0_ c0 hb11
 go_wp2_with(first | (refine uq0 (by rfl) _ _ rfl (w.heap.size) rfl _ _ b12 _ Tryz.underlying26 rfl uqg ?_))
 refine(HR.out _).mono ?_
 rintro e w14 ⟨rfl,rfl⟩
 go_wp2_with(first | (refine uq0 (by rfl) _ _ rfl (w.heap.size) rfl _ _ b12 _ Tryz.underlying26 rfl uqg ?_))
 refine(HE2.out _ c13).mono ?_
 rintro e w15 ⟨rfl,hb16⟩
 have b17:=b12.bl hb16
 have c18:=bthen c13 hb16
 clear b12 c13 hb16
 go_wp2_with(first | (refine uq0 (by rfl) _ _ rfl (w.heap.size) rfl _ _ b17 _ Tryz.underlying26 rfl uqg ?_))
 have hb:=upBytes_any so (v:Int) 3 _ (zrc hsz (by decide)) (HT.out.below c18)
 rw[HO.out,HUB.out,HS3.out] at hb
 have HB1:=zrj hb
 clear hb
 refine(HB1.out).mono ?_
 rintro e w19 ⟨rfl,hb20⟩
 have b21:=b17.bl hb20
 have c22:=bthen c18 hb20
 clear b17 c18 hb20
 go_wp2_with(first | (refine uq0 (by rfl) _ _ rfl (w.heap.size) rfl _ _ b21 _ Tryz.underlying26 rfl uqg ?_))
 refine(vw2 so3 3 _ (zrc hsz3 (by decide)) (HT.out.below c22)).mono ?_
 rintro e wD23 ⟨t,er,q1,q2,q3,d1,d2,d3,rfl,hmt,_,hb24,hd⟩
 rw[HO3.out,HD3.out] at hd
 injection hd with hd1 hd2
 subst hd1 hd2
 have b25:=b21.bl hb24
 have c26:=bthen c22 hb24
 clear b21 c22 hb24
 have hb4:=(zri wD23.heap.size wD23).alloc (zra _) (.cells (stv tt q1 q2 q3 d1 d2 d3) 26)
 have bt_:=Blk.new wD23 26 (stv tt q1 q2 q3 d1 d2 d3)
 have ht4:=hmt.below hb4
 have hts:=hb4.size
 clear hmt
 have b27:=b25.bl hb4
 have c28:=bthen c26 hb4
 clear b25 c26 hb4
 go_wp2_with(first | (refine uqh rfl _ _ _ rfl rfl 26 _ (stv tt q1 q2 q3 d1 d2 d3) rfl uqg rfl (uzj _ _ _ _ _ _ _ _ _ _) ?_) | (first | (refine uq0 (by rfl) _ _ rfl (w.heap.size) rfl _ _ b27 _ Tryz.underlying26 rfl uqg ?_) | (refine uq0 (by rfl) _ _ rfl (wD23.heap.size) rfl _ _ bt_ _ Tryz.underlying26 rfl uqg ?_)))
 generalize wD23.alloc _=W4 at *
 generalize hgt:wD23.heap.size=gt at *
 clear hgt
 have CT:=zrj (ht4.more hts)
 clear ht4 hts
 refine(HU'.out _ c28).mono ?_
 rintro e wU29 ⟨u,er,r1,r2,r3,e1,e2,e3,rfl,hmu,hb30,hd⟩
 rw[HUP.out] at hd
 injection hd with hd1 hd2
 subst hd1 hd2
 have HMT:=zrj ((CT.out.below hb30).more hb30.size)
 clear CT
 have b31:=b27.bl hb30
 have b32:=bt_.bl hb30
 have c33:=bthen c28 hb30
 clear b27 bt_ c28 hb30
 have hb6:=(zri wU29.heap.size wU29).alloc (zra _) (.cells (stv tt r1 r2 r3 e1 e2 e3) 26)
 have bu_:=Blk.new wU29 26 (stv tt r1 r2 r3 e1 e2 e3)
 have HMU6:=zrj ((hmu.below hb6).more hb6.size)
 have HMT6:=zrj ((HMT.out.below hb6).more hb6.size)
 clear hmu HMT
 have b34:=b31.bl hb6
 have b35:=b32.bl hb6
 have c36:=bthen c33 hb6
 clear b31 b32 c33 hb6
 go_wp2_with(first | (refine uqh rfl _ _ _ rfl rfl 26 _ (stv tt r1 r2 r3 e1 e2 e3) rfl uqg rfl (uzj _ _ _ _ _ _ _ _ _ _) ?_) | (first | (refine uq0 (by rfl) _ _ rfl (w.heap.size) rfl _ _ b34 _ Tryz.underlying26 rfl uqg ?_) | (refine uq0 (by rfl) _ _ rfl (gt) rfl _ _ b35 _ Tryz.underlying26 rfl uqg ?_) | (refine uq0 (by rfl) _ _ rfl (wU29.heap.size) rfl _ _ bu_ _ Tryz.underlying26 rfl uqg ?_)))
 generalize wU29.alloc _=W6 at *
 generalize hgu:wU29.heap.size=gu at *
 clear hgu
 have HSM:=same_any tt tt q1 q2 q3 r1 r2 r3 d1 d2 d3 e1 e2 e3 _ HMT6.out HMU6.out HFT.out.sz HFT.out.sz
 rw[decide_eq_true rfl] at HSM
 have HSM2:=zrj HSM
 clear HSM
 refine HSM2.out.mono ?_
 rintro e w37 ⟨rfl,hb38⟩
 have HMT7:=zrj ((HMT6.out.below hb38).more hb38.size)
 have HMU7:=zrj ((HMU6.out.below hb38).more hb38.size)
 clear HMT6 HMU6 HSM2
 have b39:=b34.bl hb38
 have b40:=b35.bl hb38
 have b41:=bu_.bl hb38
 have c42:=bthen c36 hb38
 clear b34 b35 bu_ c36 hb38
 go_wp2_with(first | (refine uq0 (by rfl) _ _ rfl (w.heap.size) rfl _ _ b39 _ Tryz.underlying26 rfl uqg ?_) | (refine uq0 (by rfl) _ _ rfl (gt) rfl _ _ b40 _ Tryz.underlying26 rfl uqg ?_) | (refine uq0 (by rfl) _ _ rfl (gu) rfl _ _ b41 _ Tryz.underlying26 rfl uqg ?_))
 have CV:=zrj c42
 have BT:=zrj b40
 have BU:=zrj b41
 clear c42 b39 b40 b41
 go_loopw [15,74] (fun ac i wr=>∃(n:Nat) (aa:List ActD) (p:Option Addr) (c:Nat),n≤l1.length/\i=.int .i64 n/\ac=.slice p aa.length c/\aa.length≤60/\uz5 aa≤aa.length*130/\OwnR wr w37.heap.size 50 2 p c (aa.map rowA)/\Below w37.heap.size w37 wr) (fun _ i _=>l1.length-(intOf i).toNat)
 case atStart=>exact⟨0,[],none,0,Nat.zero_le _,rfl,rfl,Nat.zero_le _,Nat.zero_le _,OwnR.nil0 _ _ _ _,zri _ _⟩
 case round =>
  obtain⟨n,aa,p,c,hn,rfl,rfl,h60,hsum,hO,hbr⟩:=hrel
  by_cases hlt:n<l1.length
  ·have hx:l1[n]?=some l1[n]:=zrd hlt
   have hq:=HOK.out l1[n] (List.getElem_mem hlt)
   generalize l1[n]=q at *
   have cc:=CV.out.trans (hbr.mono CV.out.size)
   obtain⟨a,rfl,hab,_,hat⟩:=(HEL.out.below cc).at_ (k:=n) (r:=rowQ q) (by rw[zrg,hx];rfl)
   have HSq:=zrj (ReqSz.of hq)
   have hb1:=zsa wr (.cells (qv q) 46)
   have bq:=Blk.new wr 46 (qv q)
   have hbr1:=bthen hbr hb1
   have cc1:=bthen cc hb1
   have hO1:=hO.below hb1
   have hql:=vkc q
   clear hx hq hab hbr cc hb1 hO
   go_upto_region 16 with(first | (refine uqe rfl _ _ rfl (a.add (n*14)) rfl [Value.int .i64 q.kind,Value.string q.job.name,Value.int .i64 q.job.prio,Value.int .i64 q.job.need,Value.int .i64 q.job.tries,Value.string q.job.tag,Value.string q.node.name,Value.int .i64 q.node.room,Value.string q.node.zone,Value.string q.lease.job,Value.string q.lease.node,Value.int .i64 q.lease.till,Value.string q.name,Value.int .i64 q.n] _ hat Tryz.underlying46 rfl uqb ?_) | (refine uqh rfl _ _ _ rfl rfl 46 _ (qv q) rfl uqb rfl (by simp[Value.oneCell']) ?_))
   generalize wr.alloc _=W2 at *
   generalize wr.heap.size=gq at *
   clear hat
   have HBy:=zrj (wkv q _ HSq.out (HT.out.below cc1))
   by_cases hE1:reqE q=0
   ·rw[decide_eq_true hE1] at HBy
    have hbz:(bstr (uzq q)).size≤130:=by rw[uq2];exact hql
    generalize bstr (uzq q)=bq1 at *
    go_wp2_with(first | (refine uq0 (by rfl) _ _ rfl gq rfl _ _ bq _ Tryz.underlying46 rfl uqb ?_))
    refine HBy.out.mono ?_
    rintro e w3 ⟨rfl,hb3⟩
    have hbr3:=bthen hbr1 hb3
    have hO3:=hO1.below hb3
    clear hb3 hbr1 cc1 bq hO1 HBy
    by_cases hL:aa.length<60
    ·have hLi:(aa.length:Int)<60:=by omega
     obtain⟨i0,hi,hz0,hz1,hz2⟩:=info_parts act_info
     obtain⟨k8,hk8⟩:∃k8,((n:Nat):Int).tmod 8=k8:=⟨_,rfl⟩
     have hnext:(aa++[(⟨k8,bq1⟩:ActD)]).map rowA=aa.map rowA++[rowA (⟨k8,bq1⟩:ActD)]:=by simp
     have hlens:=actRows_len (aa++[(⟨k8,bq1⟩:ActD)])
     have hsum2:uz5 (aa++[(⟨k8,bq1⟩:ActD)])≤(aa++[⟨k8,bq1⟩]:List ActD).length*130:=by
      simp only[uz5,List.map_append,List.sum_append,zrb,List.map_cons,List.map_nil,List.sum_cons,List.sum_nil,List.length_cons,List.length_nil] at hsum ⊢
      omega
     have hl60:(aa++[⟨k8,bq1⟩]:List ActD).length≤60:=by simp;omega
     have hrl:(aa.map rowA).length=aa.length:=zre ..
     have hbn:=zsa w3 (.cells #[.int .i64 k8,.string bq1] 50)
     have bn7:=Blk.new w3 50 #[.int .i64 k8,.string bq1]
     have hO7:=(hO3.below hbn).2
     rw[hrl] at hO7
     have hbx7:=bthen hbr3 hbn
     have hbs:=hbx7.size
     have hcl:∀j u,(rowA (⟨k8,bq1⟩:ActD))[j]?=some u→(w3.alloc (.cells #[.int .i64 k8,.string bq1] 50)).cell? ((⟨w3.heap.size,0,none⟩:Addr).add j)=some u:=World.news_of_block bn7
     have h13:∀u∈rowA (⟨k8,bq1⟩:ActD),u.oneCell'=true:=by simp[rowA,Value.oneCell']
     have hml:aa.length+1≤maxLen:=by unfold maxLen;omega
     have hby:(aa.length+1)*24≤140737488355328:=by omega
     have hl2:(rowA (⟨k8,bq1⟩:ActD)).length=1*2:=rfl
     have hfl2:(aa.map rowA++[rowA (⟨k8,bq1⟩:ActD)]).flatten=(aa.map rowA).flatten++rowA (⟨k8,bq1⟩:ActD):=by simp
     have HNX:=zrj hnext
     have HFL2:=zrj hfl2
     have HLE:=zrj hlens
     have hll:(aa++[⟨k8,bq1⟩]:List ActD).length=aa.length+1:=by simp
     have HSU:=zrj hsum2
     have HL6:=zrj hl60
     clear hO3 hbn hbr3 hnext hfl2 hlens hsum2 hl60 hrl
     go_wp2_with(first | (at_builtin;go_loud (refine wpList_append_own _ rfl _ _ 38 rfl w37.heap.size 50 i0 _ 2 24 Tryz.underlying38 hi hz0 hz1 hz2 rfl (by decide) _ aa.length (aa.map rowA).flatten rfl hO7 ⟨w3.heap.size,0,none⟩ 1 1 (rowA (⟨k8,bq1⟩:ActD)) rfl hl2 hcl h13 hml hby hbs ?_)))
     intro v2 w8 hown hg hnil
     have HB8:=zrj (hbx7.grown hg hbx7.size (fun j hj=>(World.ownsRow.lt hO7 j hj).1))
     obtain⟨qx,dx,rfl⟩:∃q d,v2=.slice q (aa.length+1) d:=by
      rcases hown.2 with⟨_,h0⟩ | ⟨g,cap,cur,rfl,_⟩
      ·exact absurd h0 (by omega)
      ·exact⟨_,cap,rfl⟩
     have HO8:=zrj (show OwnR w8 w37.heap.size 50 2 qx dx ((aa++[(⟨k8,bq1⟩:ActD)]).map rowA) from⟨HLE.out,by rw[HNX.out,zrb,zre,HFL2.out];exact hown⟩)
     clear hown hg hnil hO7 hcl bn7 hbx7
     go_wp2_with fail
     go_roundw
     case rel=>exact⟨n+1,aa++[(⟨k8,bq1⟩:ActD)],qx,dx,by omega,by go_num,by rw[hll],HL6.out,HSU.out,HO8.out,HB8.out⟩
     case measure=>simp[intOf];omega
    ·have hLi:¬((aa.length:Int)<60):=by omega
     go_wp2_with fail
     go_roundw
     case rel=>exact⟨n+1,aa,p,c,by omega,by go_num,rfl,h60,hsum,hO3,hbr3⟩
     case measure=>simp[intOf];omega
   ·rw[decide_eq_false hE1] at HBy
    generalize bstr (uzq q)=bq1 at *
    go_wp2_with(first | (refine uq0 (by rfl) _ _ rfl gq rfl _ _ bq _ Tryz.underlying46 rfl uqb ?_))
    refine HBy.out.mono ?_
    rintro e w3 ⟨rfl,hb3⟩
    have hbr3:=bthen hbr1 hb3
    have hO3:=hO1.below hb3
    clear hb3 hbr1 cc1 bq hO1 HBy
    go_wp2_with fail
    go_roundw
    case rel=>exact⟨n+1,aa,p,c,by omega,by go_num,rfl,h60,hsum,hO3,hbr3⟩
    case measure=>simp[intOf];omega
  ·have cc:=CV.out.trans (hbr.mono CV.out.size)
   have bt:=BT.out.below hbr BT.out.lt
   have bu:=BU.out.below hbr BU.out.lt
   have HAE:=zrj hO.elts
   have mt:=(HMT7.out.below hbr).more hbr.size
   have HMU8:=zrj ((HMU7.out.below hbr).more hbr.size)
   have HP:=zrj (hplay_any tt q1 q2 q3 d1 d2 d3 wr mt HFT.out.sz (HT.out.below cc) aa p c HAE.out h60 (by omega) HCT.out)
   clear mt hO hbr
   go_wp2_with(first | (refine uq0 (by rfl) _ _ rfl (gt) rfl _ _ bt _ Tryz.underlying26 rfl uqg ?_) | (refine uq0 (by rfl) _ _ rfl (gu) rfl _ _ bu _ Tryz.underlying26 rfl uqg ?_))
   refine HP.out.mono ?_
   rintro e w9 ⟨b1,rfl,hb1g,hk1,hb9⟩
   have cc9:=bthen cc hb9
   have bu9:=bu.bl hb9
   have HP2:=zrj (hplay_any tt r1 r2 r3 e1 e2 e3 w9 ((HMU8.out.below hb9).more hb9.size) HFT.out.sz (HT.out.below cc9) aa p c ((HAE.out.below hb9).more hb9.size) h60 (by omega) HCT.out)
   generalize playF tt (aa.map toP)=f1 at *
   clear hb9 cc bt bu HP
   go_wp2_with(first | (refine uq0 (by rfl) _ _ rfl (gu) rfl _ _ bu9 _ Tryz.underlying26 rfl uqg ?_))
   refine HP2.out.mono ?_
   rintro e w11 ⟨b2,rfl,hb2g,hk3,hb11⟩
   have hk4:=hk1.bl hb11
   have cc11:=bthen cc9 hb11
   have e1:Elts w11 w11.heap.size 1 (some ⟨b1,0,none⟩) ((strs8 f1).map rowS):=.of_blk (wwc _) hk4 (outA_flat _)
   have e2:Elts w11 w11.heap.size 1 (some ⟨b2,0,none⟩) ((strs8 f1).map rowS):=.of_blk (wwc _) hk3 (outA_flat _)
   have HQ:=eqS_any (some ⟨b1,0,none⟩) (some ⟨b2,0,none⟩) 8 8 (strs8 f1) (strs8 f1) w11 e1 e2 (show 8≤4611686018427387904 by decide) (show 8≤4611686018427387904 by decide)
   rw[decide_eq_true rfl] at HQ
   have HQ2:=zrj HQ
   clear HQ e1 e2 hk4 hk3 hk1 hb11 cc9 bu9 HP2
   go_wp2_with fail
   refine HQ2.out.mono ?_
   rintro e w12 ⟨rfl,hb12⟩
   have cc12:=bthen cc11 hb12
   go_wp2_with fail
   go_ret
   exact⟨rfl,cc12⟩
end Go.Proofs.YtnnfgchhkekkeacGreatDoor.topVersions
