/- Lemmas.
-/
import Derived.Test.YtnnfgchhkekkeacGreatDoorPvHubA
import Derived.Test.YtnnfgchhkekkeacGreatDoorPvReqD
set_option linter.all false
set_option maxHeartbeats 16000000
set_option maxRecDepth 100000
namespace Go.Proofs.YtnnfgchhkekkeacGreatDoor
open Go.Proofs.Tryz
open Go.RowKit
theorem finQ_le (r:Res ReqD) (h:∀e,r=.bad e->e<=9):(finQ r).2<=9:=by
 unfold finQ
 split
 ·rename_i e;exact h e rfl
 ·split
  ·show 4<=9;decide
  ·split
   ·exact xxy _
   ·show 0<=9;decide
theorem decQR_le (l:Zlu):(decQR l).2<=1000:=by
 unfold decQR
 split
 ·rename_i e he;exact zrc (uyj l e he) (by decide)
 ·split
  ·exact zrc (finQ_le _ (fun e h=>xq8 _ _ e h)) (by decide)
  ·show 1<=1000;decide
theorem vz0 {w:World} {B g sv:Nat} {fd:Nat->Nat} {ws:Nat->Value} {h:HubD} (H:HubM w B g sv fd ws h) {k:Nat} (hk:k<8) (hv:SrvOk h.srv) (HTb:∀W,Below B w W->Tabs W) (x:Fr) (hg:ujj x) (hz:∀i,i<8->(encs (h.c i).waits).length<=140737488200000) (hn:x.ver≠3\/x.kind≠3) :
  Calls prog 50 #[zse g,.pointer (some ⟨g,1+k*4,none⟩),.agg #[.int .i64 (x.ver:Int),.int .i64 (x.kind:Int),.string (bstr x.pl)]] w fun e w'=>e=.returned (.tuple #[])/\HubQ w B g sv fd ws (h.frame k x) w':=by
 have hb0:=zsa w (.cells #[.int .i64 (x.ver:Int),.int .i64 (x.kind:Int),.string (bstr x.pl)] 98)
 have bx0:=Blk.new w 98 #[.int .i64 (x.ver:Int),.int .i64 (x.kind:Int),.string (bstr x.pl)]
 have hlo:=H.lo.2.2.2
 have H0:=H.below hb0
 have HC0:=zrj ((HubC.refl w g sv fd ws).below hb0)
 have hzk:=hz k hk
 have HC:=zrj (vxe H0 hk hv.1 1 (by decide) (by omega))
 have hfr:h.frame k x=h.close k 1:=by unfold HubD.frame;rw[if_pos hn]
 have HFr:=zrj hfr
 by_cases h1:x.ver=3
 ·have h2:x.kind≠3:=by rcases hn with h | h;exact absurd h1 h;exact h
  have n1:((x.ver:Int) != 3)=false:=by rw[bne_eq_false_iff_eq];omega
  have n2:((x.kind:Int) != 3)=true:=by rw[bne_iff_ne];omega
  clear hn hfr h1 h2 hz hzk hv HTb H H0 hg
  go_enter func50,ntmps50
  go_wp2_with fail
  generalize w.alloc _=w0 at *
  have c0:=bx0.c0
  have c1:=bx0.c1
  have c2:=bx0.c2
  go_wp2_with fail
  refine HC.out.mono ?_
  rintro e w1 ⟨rfl,ws1,H1,C1⟩
  go_wp2_with fail
  first | go_end0 | ((try simp only[Exit.inBlock,Exit.then]);refine bodyPost_ret (results_none rfl _ _ _) rfl ?_)
  rw[HFr.out]
  exact⟨rfl,ws1,H1,HC0.out.trans C1⟩
 ·have n1:((x.ver:Int) != 3)=true:=by rw[bne_iff_ne];omega
  clear hn hfr h1 hz hzk hv HTb H H0 hg
  go_enter func50,ntmps50
  go_wp2_with fail
  generalize w.alloc _=w0 at *
  have c0:=bx0.c0
  have c1:=bx0.c1
  have c2:=bx0.c2
  go_wp2_with fail
  refine HC.out.mono ?_
  rintro e w1 ⟨rfl,ws1,H1,C1⟩
  go_wp2_with fail
  first | go_end0 | ((try simp only[Exit.inBlock,Exit.then]);refine bodyPost_ret (results_none rfl _ _ _) rfl ?_)
  rw[HFr.out]
  exact⟨rfl,ws1,H1,HC0.out.trans C1⟩
theorem wvf {w:World} {B g sv:Nat} {fd:Nat->Nat} {ws:Nat->Value} {h:HubD} (H:HubM w B g sv fd ws h) {k:Nat} (hk:k<8) (hv:SrvOk h.srv) (HTb:∀W,Below B w W->Tabs W) (x:Fr) (hg:ujj x) (hz:∀i,i<8->(encs (h.c i).waits).length<=140737488200000) (h1:x.ver=3) (h2:x.kind=3) (hd:(decQR x.pl).2≠0) :
  Calls prog 50 #[zse g,.pointer (some ⟨g,1+k*4,none⟩),.agg #[.int .i64 (x.ver:Int),.int .i64 (x.kind:Int),.string (bstr x.pl)]] w fun e w'=>e=.returned (.tuple #[])/\HubQ w B g sv fd ws (h.frame k x) w':=by
 have hb0:=zsa w (.cells #[.int .i64 (x.ver:Int),.int .i64 (x.kind:Int),.string (bstr x.pl)] 98)
 have bx0:=Blk.new w 98 #[.int .i64 (x.ver:Int),.int .i64 (x.kind:Int),.string (bstr x.pl)]
 have hlo:=H.lo.2.2.2
 have H0:=H.below hb0
 have HC0:=zrj ((HubC.refl w g sv fd ws).below hb0)
 have hzk:=hz k hk
 have n1:((x.ver:Int) != 3)=false:=by rw[bne_eq_false_iff_eq];omega
 have n2:((x.kind:Int) != 3)=false:=by rw[bne_eq_false_iff_eq];omega
 have hpl:=hg.2.2
 have HD:=zrj (vk0 (bstr x.pl) (w.alloc (.cells #[.int .i64 (x.ver:Int),.int .i64 (x.kind:Int),.string (bstr x.pl)] 98)) (by rw[uq2];omega) (HTb _ (hb0.mono hlo)))
 have hfr:h.frame k x=h.close k (decQR x.pl).2:=by unfold HubD.frame;rw[if_neg (by omega),if_pos hd]
 have HFr:=zrj hfr
 have hde:(decQR x.pl).2<=1000:=decQR_le x.pl
 have hne:(((decQR x.pl).2:Int) != 0)=true:=by rw[bne_iff_ne];omega
 rw[show(bstr x.pl).data.toList=x.pl from uqx _] at HD
 generalize(decQR x.pl)=dq at *
 obtain⟨q,er⟩:=dq
 have HV:=zrj hv
 have HH:=zrj H
 have HZ:=zrj hzk
 clear hfr hd h1 h2 hz hzk hv HTb H H0 hg hpl
 go_enter func50,ntmps50
 go_wp2_with fail
 generalize w.alloc _=w0 at *
 have c0:=bx0.c0
 have c1:=bx0.c1
 have c2:=bx0.c2
 go_wp2_with fail
 refine HD.out.mono ?_
 rintro e w1 ⟨rfl,hb1⟩
 have hbA:=bthen hb0 hb1
 have hbB:=hbA.alloc hbA.size (.cells (qv q) 46)
 clear c0 c1 c2 hb1 HD
 go_upto_region 4 with(first | (refine uqh rfl _ _ _ rfl rfl 46 _ (qv q) rfl uqb rfl (by simp[Value.oneCell']) ?_))
 generalize w1.alloc _=w2 at *
 go_wp2_with fail
 refine(vxe (HH.out.below hbB) hk HV.out.1 er hde (by have:=HZ.out;omega)).mono ?_
 rintro e w3 ⟨rfl,ws1,H1,C1⟩
 go_wp2_with fail
 first | go_end0 | ((try simp only[Exit.inBlock,Exit.then]);refine bodyPost_ret (results_none rfl _ _ _) rfl ?_)
 rw[HFr.out]
 exact⟨rfl,ws1,H1,((HubC.refl w g sv fd ws).below hbB).trans C1⟩
end Go.Proofs.YtnnfgchhkekkeacGreatDoor
