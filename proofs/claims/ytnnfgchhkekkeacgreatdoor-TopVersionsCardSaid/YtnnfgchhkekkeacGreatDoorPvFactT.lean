/- Lemmas.
-/
import Derived.Test.YtnnfgchhkekkeacGreatDoorPvHubS
set_option linter.all false
set_option maxHeartbeats 16000000
set_option maxRecDepth 100000
namespace Go.Proofs.YtnnfgchhkekkeacGreatDoor
open Go.Proofs.Tryz
open Go.RowKit
theorem wkv (q:ReqD) (w:World) (HS:ReqSz q) (hT:Tabs w) :
  Calls prog 11 #[.agg (qv q)] w fun e w'=>e=.returned (.tuple #[.string (bstr (uzq q)),.bool (decide (reqE q=0))])/\Below w.heap.size w w':=by
 have hb0:=zsa w (.cells (qv q) 46)
 have bx0:=Blk.new w 46 (qv q)
 have hzf:=ujb
 have hzq:=uq3
 by_cases hE:reqE q=0
 ·have he:encQR q=(encQ q,0):=by unfold encQR;rw[if_neg (by rw[hE];simp)]
  have hbs:uzq q=wireF 3 3 (encQ q):=by unfold uzq;rw[if_pos hE,uw5];rfl
  have HE:=zrj (fun W (hW:Tabs W)=>vk1 q W HS hW)
  rw[he] at HE
  have HF:=zrj (fun W=>vzr 3 3 (encQ q) (by omega) (by omega) (zrc (vvw hE) (by decide)) W)
  have HT:=zrj hT
  have hdec:decide (reqE q=0)=true:=by simp[hE]
  rw[hbs,hdec]
  generalize wireF 3 3 (encQ q)=out at *
  generalize encQ q=pl at *
  clear he hbs hE HS hT hdec
  go_enter func11,ntmps11
  go_wp2_with(first | (refine uqa rfl _ _ rfl w.heap.size rfl _ _ bx0 _ underlying46 rfl uqb ?_))
  generalize w.alloc _=w0 at *
  refine(HE.out _ (HT.out.below hb0)).mono ?_
  rintro e w1 ⟨rfl,hb1⟩
  go_wp2_with fail
  refine(HF.out _).mono ?_
  rintro e w2 ⟨rfl,hb2⟩
  go_wp2_with fail
  go_ret2
  exact⟨rfl,(bthen hb0 hb1).trans (hb2.mono (zrc hb0.size hb1.size))⟩
 ·have he:encQR q=([],reqE q):=by unfold encQR;rw[if_pos hE]
  have hbs:uzq q=[]:=by unfold uzq;rw[if_neg hE]
  have HE:=zrj (fun W (hW:Tabs W)=>vk1 q W HS hW)
  rw[he] at HE
  have HT:=zrj hT
  have hne:(((reqE q:Nat):Int) != 0)=true:=by rw[bne_iff_ne];omega
  have hdec:decide (reqE q=0)=false:=by simp[hE]
  rw[hbs,hdec,show bstr []=ByteArray.empty from rfl]
  generalize reqE q=er at *
  clear he hbs hE HS hT hdec
  go_enter func11,ntmps11
  go_wp2_with(first | (refine uqa rfl _ _ rfl w.heap.size rfl _ _ bx0 _ underlying46 rfl uqb ?_))
  generalize w.alloc _=w0 at *
  refine(HE.out _ (HT.out.below hb0)).mono ?_
  rintro e w1 ⟨rfl,hb1⟩
  go_wp2_with fail
  go_ret2
  exact⟨rfl,bthen hb0 hb1⟩
theorem wxm (a:Int) (p1 p2 p3:Zoa) (n1 n2 n3 c1 c2 c3:Nat) (W:World):(Instr.field 26 (.agg #[.int .i64 a,.slice p1 n1 c1,.slice p2 n2 c2,.slice p3 n3 c3]) 1).run prog W=.ok (Value.slice p1 n1 c1) W:=by kernel_rfl
theorem wwa:ReqSz qPutA:=⟨by decide,sz0,sz0,sz0,sz0,sz0,sz0⟩
theorem works_any (w:World) (hT:Tabs w):Calls prog 4 #[] w fun e w'=>e=.returned (.bool true)/\Below w.heap.size w w':=by
 have hzq:=uq3
 have hzs:=uq4
 have hzj:=uw0
 have F0:Fine uvr:=(uxk _).1 vyc
 have hbs:=vkc qPutA
 have hnf:=one_new uvr (k:=0) (by decide) vzd
 have hso:=xx5 F0 (k:=0) (by decide) vzd
 have hsr:=xx6 uvr (k:=0) (by decide) vzd
 have hone:=wv2
 have hm:StM w w.heap.size none none none uvr:=⟨.nil_,.nil_,.nil_⟩
 have HN:=zrj (wxs uvr none none none 0 0 0 w hm F0.sz hT vyc)
 go_enter func4,ntmps4
 go_wp2_with fail
 refine HN.out.mono ?_
 rintro e w2 ⟨g,sv,fd,ws,rfl,H2,hb2⟩
 have HH2:=zrj H2
 have HBy:=zrj (wkv qPutA w2 wwa (hT.below hb2))
 rw[show decide (reqE qPutA=0)=true from by rw[vzd];rfl] at HBy
 clear H2 HN hm
 go_wp2_with fail
 refine HBy.out.mono ?_
 rintro e w3 ⟨rfl,hb3⟩
 have H3:=HH2.out.below hb3
 have hB3:=bthen hb2 hb3
 have HSd:=zrj (vym H3 (k:=0) (by decide) (vjr F0) (fun W hW=>hT.below (hB3.trans hW)) (bstr (uzq qPutA)) (by rw[uq2];omega)
  (by rw[uqx,hnf];decide) (fun n i hi=>by
   rw[uqx]
   have h:=mid_len1 (newH uvr) 0 (uzq qPutA) n i
   rw[vv6,hnf] at h
   have h2:[reqFr qPutA].length=1:=rfl
   omega) rfl)
 rw[uqx] at HSd
 have HV:=zrj (show SrvOk ((newH uvr).send 0 (uzq qPutA)).srv from vwh (h:=newH uvr) (vjr F0) 0 _)
 have HH3:=zrj H3
 have hlen:((newH uvr).send 0 (uzq qPutA)).srv.st.jobs.length=1:=by rw[hsr];exact hone
 have hne:=xq0 hso
 clear H3 HBy HH2 hbs hnf hb3 hso hsr hone F0
 generalize(newH uvr).send 0 (uzq qPutA)=h4 at *
 generalize bstr (encs ((newH uvr).out 0 (uzq qPutA)))=out at *
 generalize bstr (uzq qPutA)=bs at *
 go_wp2_with fail
 refine HSd.out.mono ?_
 rintro e w4 ⟨rfl,ws4,H4,C4⟩
 have hB4:=hB3.trans (C4.under HH3.out)
 have HSt:=zrj (wvh H4 HV.out.1)
 clear H4 C4 HSd
 go_wp2_with fail
 refine HSt.out.mono ?_
 rintro e w5 ⟨q1,q2,q3,d1,d2,d3,rfl,hO,hb5⟩
 have hB5:=bthen hB4 hb5
 clear hO
 unfold stv
 have hfj:=wxm h4.srv.st.rev q1 q2 q3 1 h4.srv.st.nodes.length h4.srv.st.leases.length d1 d2 d3 w5
 go_wp2_with fail
 go_ret
 exact⟨rfl,hB5⟩
end Go.Proofs.YtnnfgchhkekkeacGreatDoor
