/- Lemmas.
-/
import Derived.Test.YtknmnhleicakhaaGreatDoorPtHubA
import Derived.Test.YtknmnhleicakhaaGreatDoorPtReqD
import Derived.Test.YtknmnhleicakhaaGreatDoorPtSvDoB
set_option linter.all false
set_option maxHeartbeats 16000000
set_option maxRecDepth 100000
namespace Go.Proofs.YtknmnhleicakhaaGreatDoor
open Go.Proofs.Tryz
open Go.RowKit
theorem finQ_le (r:Res ReqD) (h:∀e,r=.bad e->e<=9):(finQ r).2<=9:=by
 unfold finQ
 split
 ·rename_i e;exact h e rfl
 ·split
  ·show 4<=9;decide
  ·split
   ·exact xww _
   ·show 0<=9;decide
theorem decQR_le (l:Zlu):(decQR l).2<=1000:=by
 unfold decQR
 split
 ·rename_i e he;exact zrc (vxp l e he) (by decide)
 ·split
  ·exact zrc (finQ_le _ (fun e h=>xv2 _ _ e h)) (by decide)
  ·show 1<=1000;decide
theorem vv3 {w:World} {B g sv:Nat} {fd:Nat->Nat} {ws:Nat->Value} {h:HubD} (H:HubM w B g sv fd ws h) {k:Nat} (hk:k<8) (hv:SrvOk h.srv) (HTb:∀W,Below B w W->Tabs W) (x:Fr) (hg:uxu x) (hz:∀i,i<8->(encs (h.c i).waits).length<=140737488200000) (hn:x.ver≠3\/x.kind≠3) :
  Calls prog 23 #[zse g,.pointer (some ⟨g,1+k*4,none⟩),.agg #[.int .i64 (x.ver:Int),.int .i64 (x.kind:Int),.string (bstr x.pl)]] w fun e w'=>e=.returned (.tuple #[])/\HubQ w B g sv fd ws (h.frame k x) w':=by
 have hb0:=zsa w (.cells #[.int .i64 (x.ver:Int),.int .i64 (x.kind:Int),.string (bstr x.pl)] 75)
 have bx0:=Blk.new w 75 #[.int .i64 (x.ver:Int),.int .i64 (x.kind:Int),.string (bstr x.pl)]
 have hlo:=H.lo.2.2.2
 have H0:=H.below hb0
 have HC0:=zrj ((HubC.refl w g sv fd ws).below hb0)
 have hzk:=hz k hk
 have HC:=zrj (vjs H0 hk hv.1 1 (by decide) (by omega))
 have hfr:h.frame k x=h.close k 1:=by unfold HubD.frame;rw[if_pos hn]
 have HFr:=zrj hfr
 by_cases h1:x.ver=3
 ·have h2:x.kind≠3:=by rcases hn with h | h;exact absurd h1 h;exact h
  have n1:((x.ver:Int) != 3)=false:=by rw[bne_eq_false_iff_eq];omega
  have n2:((x.kind:Int) != 3)=true:=by rw[bne_iff_ne];omega
  clear hn hfr h1 h2 hz hzk hv HTb H H0 hg
  go_enter func23,ntmps23
  go_wp2_with fail
  generalize w.alloc _=w0 at *
  have c0:=bx0.c0
  have c1:=bx0.c1
  have c2:=bx0.c2
  go_wp2_with fail
  refine HC.out.mono ?_
  rintro e w1 ⟨rfl,ws1,H1,C1⟩
  go_wp2_with fail
  first | go_end0 | ((try simp only[Exit.inBlock,Exit.then]);refine bodyPost_ret (results_none rfl _ _ _) rfl ?_)
  rw[HFr.out]
  exact⟨rfl,ws1,H1,HC0.out.trans C1⟩
 ·have n1:((x.ver:Int) != 3)=true:=by rw[bne_iff_ne];omega
  clear hn hfr h1 hz hzk hv HTb H H0 hg
  go_enter func23,ntmps23
  go_wp2_with fail
  generalize w.alloc _=w0 at *
  have c0:=bx0.c0
  have c1:=bx0.c1
  have c2:=bx0.c2
  go_wp2_with fail
  refine HC.out.mono ?_
  rintro e w1 ⟨rfl,ws1,H1,C1⟩
  go_wp2_with fail
  first | go_end0 | ((try simp only[Exit.inBlock,Exit.then]);refine bodyPost_ret (results_none rfl _ _ _) rfl ?_)
  rw[HFr.out]
  exact⟨rfl,ws1,H1,HC0.out.trans C1⟩
theorem xx3 {w:World} {B g sv:Nat} {fd:Nat->Nat} {ws:Nat->Value} {h:HubD} (H:HubM w B g sv fd ws h) {k:Nat} (hk:k<8) (hv:SrvOk h.srv) (HTb:∀W,Below B w W->Tabs W) (x:Fr) (hg:uxu x) (hz:∀i,i<8->(encs (h.c i).waits).length<=140737488200000) (h1:x.ver=3) (h2:x.kind=3) (hd:(decQR x.pl).2≠0) :
  Calls prog 23 #[zse g,.pointer (some ⟨g,1+k*4,none⟩),.agg #[.int .i64 (x.ver:Int),.int .i64 (x.kind:Int),.string (bstr x.pl)]] w fun e w'=>e=.returned (.tuple #[])/\HubQ w B g sv fd ws (h.frame k x) w':=by
 have hb0:=zsa w (.cells #[.int .i64 (x.ver:Int),.int .i64 (x.kind:Int),.string (bstr x.pl)] 75)
 have bx0:=Blk.new w 75 #[.int .i64 (x.ver:Int),.int .i64 (x.kind:Int),.string (bstr x.pl)]
 have hlo:=H.lo.2.2.2
 have H0:=H.below hb0
 have HC0:=zrj ((HubC.refl w g sv fd ws).below hb0)
 have hzk:=hz k hk
 have n1:((x.ver:Int) != 3)=false:=by rw[bne_eq_false_iff_eq];omega
 have n2:((x.kind:Int) != 3)=false:=by rw[bne_eq_false_iff_eq];omega
 have hpl:=hg.2.2
 have HD:=zrj (vy0 (bstr x.pl) (w.alloc (.cells #[.int .i64 (x.ver:Int),.int .i64 (x.kind:Int),.string (bstr x.pl)] 75)) (by rw[uqz];omega) (HTb _ (hb0.mono hlo)))
 have hfr:h.frame k x=h.close k (decQR x.pl).2:=by unfold HubD.frame;rw[if_neg (by omega),if_pos hd]
 have HFr:=zrj hfr
 have hde:(decQR x.pl).2<=1000:=decQR_le x.pl
 have hne:(((decQR x.pl).2:Int) != 0)=true:=by rw[bne_iff_ne];omega
 rw[show(bstr x.pl).data.toList=x.pl from uqu _] at HD
 generalize(decQR x.pl)=dq at *
 obtain⟨q,er⟩:=dq
 have HV:=zrj hv
 have HH:=zrj H
 have HZ:=zrj hzk
 clear hfr hd h1 h2 hz hzk hv HTb H H0 hg hpl
 go_enter func23,ntmps23
 go_wp2_with fail
 generalize w.alloc _=w0 at *
 have c0:=bx0.c0
 have c1:=bx0.c1
 have c2:=bx0.c2
 go_wp2_with fail
 refine HD.out.mono ?_
 rintro e w1 ⟨rfl,hb1⟩
 have hbA:=bthen hb0 hb1
 have hbB:=hbA.alloc hbA.size (.cells (qv q) 44)
 clear c0 c1 c2 hb1 HD
 go_upto_region 4 with(first | (refine uqf rfl _ _ _ rfl rfl 44 _ (qv q) rfl uqd rfl (by simp[Value.oneCell']) ?_))
 generalize w1.alloc _=w2 at *
 go_wp2_with fail
 refine(vjs (HH.out.below hbB) hk HV.out.1 er hde (by have:=HZ.out;omega)).mono ?_
 rintro e w3 ⟨rfl,ws1,H1,C1⟩
 go_wp2_with fail
 first | go_end0 | ((try simp only[Exit.inBlock,Exit.then]);refine bodyPost_ret (results_none rfl _ _ _) rfl ?_)
 rw[HFr.out]
 exact⟨rfl,ws1,H1,((HubC.refl w g sv fd ws).below hbB).trans C1⟩
theorem delOk_h {d:uq0} (h:uxn d=0):DelOk d :=
  have G:=wk7 h
  { sz:=⟨by have:=G.lj;omega,by have:=G.ln;omega,by have:=G.ll;omega,by have:=G.gj;omega,by have:=G.gn;omega,by have:=G.gl;omega⟩
    j:=fun x hx=>by have h1:=(uwu.1 (G.j.1 x hx)).1;exact⟨zrc (uxb h1.1) (by decide),zrc (uz8 h1.2) (by decide)⟩
    n:=fun x hx=>by have h1:=(uki.1 (G.n.1 x hx)).1;exact⟨zrc (uxb h1.1) (by decide),zrc (uz8 h1.2) (by decide)⟩
    l:=fun x hx=>by have h1:=vqq (G.l.1 x hx);exact⟨zrc (uxb h1.1) (by decide),zrc (uxb h1.2.1) (by decide)⟩
    gj:=fun s hs=>zrc (uxb (G.hj.1 s hs).1) (by decide)
    gn:=fun s hs=>zrc (uxb (G.hn.1 s hs).1) (by decide)
    gl:=fun s hs=>zrc (uxb (G.hl.1 s hs).1) (by decide) }
theorem doR_encs {v:Srv} (hv:SrvOk v) (q:ReqD) (h:(doR v q).told.isSome=true):DelOk (toldD (doR v q)):=by
  cases hd:(doR v q).told with
  | none=>rw[hd] at h;cases h
  | some d =>
    obtain⟨_,h2,h3⟩:=vkx hv hd
    have ht:toldD (doR v q)=betw v.st (doR v q).srv.st:=by unfold toldD;rw[hd];exact h2
    rw[ht]
    exact delOk_h (vqe ((uxp _).2 hv.1) ((uxp _).2 (uvd hv q).1.1) h3)
theorem xqu {q:ReqD} (h:reqE q=0):ReqSz q:=by
  obtain⟨hk,hw,hp⟩:=ujs h
  have z:ByteArray.empty.size<=9223372036854775807:=by decide
  unfold uz2 at hw
  unfold partE at hp
  by_cases k1:q.kind=1
  · rw[if_pos k1] at hw hp
    have h1:=(uwu.1 hp).1
    rw[<- hw]
    exact⟨zrc (uxb h1.1) (by decide),zrc (uz8 h1.2) (by decide),z,z,z,z,z⟩
  rw[if_neg k1] at hw hp
  by_cases k2:q.kind=2
  · rw[if_pos k2] at hw hp
    have h1:=(uki.1 hp).1
    rw[<- hw]
    exact⟨z,z,zrc (uxb h1.1) (by decide),zrc (uz8 h1.2) (by decide),z,z,z⟩
  rw[if_neg k2] at hw hp
  by_cases k5:q.kind=5
  · rw[if_pos k5] at hw hp
    have h1:=vqq hp
    rw[<- hw]
    exact⟨z,z,z,z,zrc (uxb h1.1) (by decide),zrc (uxb h1.2.1) (by decide),z⟩
  rw[if_neg k5] at hw hp
  by_cases k3:q.kind=3\/q.kind=4\/q.kind=6
  · rw[if_pos k3] at hw hp
    have h1:uxh q.name=true:=by by_cases hn:uxh q.name=true;exact hn;rw[if_neg hn] at hp;cases hp
    rw[<- hw]
    exact⟨z,z,z,z,z,z,zrc (uxb h1) (by decide)⟩
  rw[if_neg k3] at hw
  by_cases k7:q.kind=7
  · rw[if_pos k7] at hw
    rw[<- hw]
    exact⟨z,z,z,z,z,z,z⟩
  rw[if_neg k7] at hw
  rw[<- hw]
  exact⟨z,z,z,z,z,z,z⟩
section
variable {w w' W:World} {O:Nat->Prop} {B g sv:Nat} {fd:Nat->Nat} {ws:Nat->Value} {h:HubD}
theorem OwnR.tch {base c size:Nat} {E:TypeId} {p:Zoa} {rows:List (List Value)} (hr:OwnR w base E size p c rows) (T:HTch O w w') (hO:∀k cs,Blk w k E cs->¬O k):OwnR w' base E size p c rows:=by
  refine⟨hr.1,hr.2.1,?_⟩
  rcases hr.2.2 with hx | ⟨g,cap,cur,h1,h2,h3,h4⟩
  · exact .inl hx
  · exact .inr ⟨g,cap,cur,h1,h2,T.blk h3 (hO g cur h3),h4⟩
theorem OwnR.offs {base c size k:Nat} {E t:TypeId} {p:Zoa} {rows:List (List Value)} {cs:Array Value} (hr:OwnR w base E size p c rows) (hg:w.grownBy w' (some k)) (hk:Blk w k t cs) (hne:E≠t):OwnR w' base E size p c rows :=
  hr.tch (O:=fun j=>j=k) (HTch.of_grown hg (fun j e=>by injection e with e;exact e.symm)) (fun j cs' hb e=>by subst e;exact absurd rfl (hb.ne_ hk hne))
section
variable {base:Nat} {p1 p2 p3 p4 p5 p6:Zoa} {c1 c2 c3 c4 c5 c6:Nat} {d:uq0}
theorem DelOwn.tch (D:DelOwn w base p1 p2 p3 p4 p5 p6 c1 c2 c3 c4 c5 c6 d) (H:HubM w B g sv fd ws h) (T:HTch (uv9 g sv fd ws) w w'):DelOwn w' base p1 p2 p3 p4 p5 p6 c1 c2 c3 c4 c5 c6 d :=
  ⟨D.j.tch T (fun k cs hb=>H.other hb (by decide) (by decide) (by decide) (by decide)),D.n.tch T (fun k cs hb=>H.other hb (by decide) (by decide) (by decide) (by decide)),D.l.tch T (fun k cs hb=>H.other hb (by decide) (by decide) (by decide) (by decide)),
   D.gj.tch T (fun k cs hb=>H.other hb (by decide) (by decide) (by decide) (by decide)),D.gn.tch T (fun k cs hb=>H.other hb (by decide) (by decide) (by decide) (by decide)),D.gl.tch T (fun k cs hb=>H.other hb (by decide) (by decide) (by decide) (by decide))⟩
theorem DelOwn.offs {k:Nat} {t:TypeId} {cs:Array Value} (D:DelOwn w base p1 p2 p3 p4 p5 p6 c1 c2 c3 c4 c5 c6 d) (hg:w.grownBy w' (some k)) (hk:Blk w k t cs) (ht:t=115 \/ t=118):DelOwn w' base p1 p2 p3 p4 p5 p6 c1 c2 c3 c4 c5 c6 d:=by
  refine⟨D.j.offs hg hk ?_,D.n.offs hg hk ?_,D.l.offs hg hk ?_,D.gj.offs hg hk ?_,D.gn.offs hg hk ?_,D.gl.offs hg hk ?_⟩
  all_goals rcases ht with rfl | rfl <;> decide
end
theorem SvI.offs {v:Srv} (hs:SvI w sv v) {k:Nat} (hg:w.grownBy w' (some k)) {t:TypeId} {cs:Array Value} (hk:Blk w k t cs) (ht:t=115 \/ t=118):SvI w' sv v:=by
  obtain⟨q1,q2,q3,d1,d2,d3,hM⟩:=hs
  refine⟨q1,q2,q3,d1,d2,d3,GrB.blk hg hM.b (hM.b.ne_ hk ?_),hM.own.other hg hk ?_ ?_ ?_⟩
  all_goals rcases ht with rfl | rfl <;> decide
theorem HubM.offs (H:HubM w B g sv fd ws h) {k:Nat} (hg:w.grownBy w' (some k)) {t:TypeId} {cs:Array Value} (hk:Blk w k t cs) (ht:t=115 \/ t=118):HubM w' B g sv fd ws h:=by
  have n1:g≠k:=H.b.ne_ hk (by rcases ht with rfl | rfl <;> decide)
  refine⟨H.b.kept hg (fun e=>n1 (by injection e with e;exact e.symm)),H.s.offs hg hk ht,fun i hi=>(H.f i hi).kept hg (fun e=>?_),H.d,fun i hi=>(H.q i hi).kept hg (fun j hj e=>?_),H.e,⟨H.lo.1,H.lo.2.1,H.lo.2.2.1,zrc H.lo.2.2.2 hg.size⟩⟩
  · injection e with e
    exact(H.f i hi).ne_ hk (by rcases ht with rfl | rfl <;> decide) e.symm
  · obtain⟨c3,h3⟩:=(H.q i hi).own hj
    injection e with e
    exact h3.ne_ hk (by rcases ht with rfl | rfl <;> decide) e.symm
theorem HTch.row (T:HTch O w W) {k:Nat} (hk:w.heap.size<=k) (cs:Array Value):HTch O w (W.setRow k cs) :=
  ⟨T.os,T.tape,T.output,by simpa using T.size,fun j hj hn=>(setRow_other W k j cs (by omega)).trans (T.block j hj hn)⟩
structure FrA (w W:World) (B g sv:Nat) (fd:Nat->Nat) (ws:Nat->Value) (h:HubD) (gq:Nat) (qs:Array Value):Prop where
  H:HubM W B g sv fd ws h
  C:HubC w g sv fd ws W ws
  q:Blk W gq 44 qs
variable {gq:Nat} {qs:Array Value}
theorem FrA.below (A:FrA w W B g sv fd ws h gq qs) (hb:Below W.heap.size W w'):FrA w w' B g sv fd ws h gq qs:=⟨A.H.below hb,A.C.below hb,A.q.below hb A.q.lt⟩
theorem FrA.alloc (A:FrA w W B g sv fd ws h gq qs) (o:Obj):FrA w (W.alloc o) B g sv fd ws h gq qs:=A.below ((zri _ _).alloc (zra _) o)
theorem FrA.serve (A:FrA w W B g sv fd ws h gq qs) {v:Srv} (hs:SvI w' sv v) (hg:W.grownBy w' (some sv)):FrA w w' B g sv fd ws ⟨v,h.c⟩ gq qs :=
  ⟨A.H.serve hs hg,A.C.trans (HubC.grown hg (fun k hk=>by injection hk with hk;exact .inr (.inl hk.symm))),vx9 A.H.s hg A.q (by decide)⟩
theorem FrA.row (A:FrA w W B g sv fd ws h gq qs) {k:Nat} {t:TypeId} {cs:Array Value} (hk:Blk W k t cs) (ht:t=115 \/ t=118) (hn:w.heap.size<=k) (cs':Array Value):FrA w (W.setRow k cs') B g sv fd ws h gq qs :=
  ⟨A.H.offs (growR W k cs') hk ht,⟨A.C.t.row hn cs',A.C.n⟩,A.q.far_row (A.q.ne_ hk (by rcases ht with rfl | rfl <;> decide)) cs'⟩
theorem FrA.new (A:FrA w W B g sv fd ws h gq qs):w.heap.size<=W.heap.size:=A.C.size
end
theorem wvo {w:World} {B g sv:Nat} {fd:Nat->Nat} {ws:Nat->Value} {h:HubD} (H:HubM w B g sv fd ws h) {k:Nat} (hk:k<8) (hv:SrvOk h.srv) (HTb:∀W,Below B w W->Tabs W) (x:Fr) (hg:uxu x) (hz:∀i,i<8->(encs (h.c i).waits).length<=140737488200000) (h1:x.ver=3) (h2:x.kind=3) (hd:(decQR x.pl).2=0) :
    Calls prog 23 #[zse g,.pointer (some ⟨g,1+k*4,none⟩),.agg #[.int .i64 (x.ver:Int),.int .i64 (x.kind:Int),.string (bstr x.pl)]] w fun e w'=>e=.returned (.tuple #[])/\HubQ w B g sv fd ws (h.frame k x) w':=by
  have hb0:=zsa w (.cells #[.int .i64 (x.ver:Int),.int .i64 (x.kind:Int),.string (bstr x.pl)] 75)
  have bx0:=Blk.new w 75 #[.int .i64 (x.ver:Int),.int .i64 (x.kind:Int),.string (bstr x.pl)]
  have hlo:=H.lo.2.2.2
  have n1:((x.ver:Int) != 3)=false:=by rw[bne_eq_false_iff_eq];omega
  have n2:((x.kind:Int) != 3)=false:=by rw[bne_eq_false_iff_eq];omega
  have hpl:=hg.2.2
  have HD:=zrj (vy0 (bstr x.pl) (w.alloc (.cells #[.int .i64 (x.ver:Int),.int .i64 (x.kind:Int),.string (bstr x.pl)] 75)) (by rw[uqz];omega) (HTb _ (hb0.mono hlo)))
  have hfr:h.frame k x=h.asked k (decQR x.pl).1:=by unfold HubD.frame;rw[if_neg (by omega),if_neg (by rw[hd];simp)]
  have hre:=decQR_ok hd
  rw[show(bstr x.pl).data.toList=x.pl from uqu _] at HD
  rw[hfr]
  generalize(decQR x.pl)=dq at *
  obtain⟨q,er⟩:=dq
  simp only at hd hre HD ⊢
  subst hd
  have z0:(((0:Nat):Int) != 0)=false:=rfl
  have HSQ:=zrj (xqu hre)
  have HVo:=zrj (uvd hv q).1
  have HLe:=zrj (doR_le h.srv q)
  have HTl:=zrj (doR_encs hv q)
  have hask:h.asked k q=(if(doR h.srv q).told.isSome=true then(h.told k q).changed (toldD (doR h.srv q)) else h.told k q):=by
    unfold HubD.asked toldD
    cases hc:(doR h.srv q).told <;> simp
  have HAs:=zrj hask
  have HTo:=zrj (xyp h k q hk)
  have HNo:=zrj (fun hc:(doR h.srv q).code≠0\/q.kind=8\/q.kind=9=>(hc.elim (fun h1=>(uyr h1).1) (fun h1=>(wyo h1).1):(doR h.srv q).told=none))
  have HDo:=zrj (fun(W:World) (hM:SvI W sv h.srv) (hT:Tabs W)=>svDo_any q h.srv sv W hM hv (xqu hre) hT)
  have HH:=zrj H
  have HZ:=zrj hz
  have HT:=zrj HTb
  have hzr:=ukd
  have hzd:=ux6
  clear hfr h1 h2 hz hv HTb hg hpl hre hask
  generalize hrr:doR h.srv q=r at *
  clear hrr
  go_enter func23,ntmps23
  go_wp2_with fail
  generalize w.alloc _=w0 at *
  have c0:=bx0.c0
  have c1:=bx0.c1
  have c2:=bx0.c2
  go_wp2_with fail
  refine HD.out.mono ?_
  rintro e w1 ⟨rfl,hb1⟩
  have hbA:=bthen hb0 hb1
  have hbB:=hbA.alloc hbA.size (.cells (qv q) 44)
  have bq:=Blk.new w1 44 (qv q)
  clear c0 c1 c2 hb1 HD hb0 bx0 n1 n2
  go_upto_region 6 with(first | (refine uqf rfl _ _ _ rfl rfl 44 _ (qv q) rfl uqd rfl (by simp[Value.oneCell']) ?_))
  have hgq:w.heap.size<=w1.heap.size:=hbA.size
  have A2:FrA w (w1.alloc (.cells (qv q) 44)) B g sv fd ws h w1.heap.size (qv q):=⟨HH.out.below hbB,(HubC.refl w g sv fd ws).below hbB,bq⟩
  generalize w1.alloc _=w2 at *
  generalize w1.heap.size=gq at *
  have HA2:=zrj A2
  clear hbA bq hbB
  go_cut [8,9,10] (fun v8 v9 v10 wx=>∃gr gd x1 x2 x3 x4 x5 x6 y1 y2 y3 y4 y5 y6,v8=zse gr/\v9=zse gd/\v10=.bool r.told.isSome/\FrA w wx B g sv fd ws ⟨r.srv,h.c⟩ gq (qv q)/\Blk wx gr 115 #[.int .i64 (r.code:Int),.int .i64 r.srv.st.rev]/\Blk wx gd 118 #[.int .i64 (toldD r).frm,.int .i64 (toldD r).upto,.slice x1 (toldD r).jobs.length y1,.slice x2 (toldD r).nodes.length y2,.slice x3 (toldD r).leases.length y3,.slice x4 (toldD r).gj.length y4,.slice x5 (toldD r).gn.length y5,.slice x6 (toldD r).gl.length y6]/\DelOwn wx 0 x1 x2 x3 x4 x5 x6 y1 y2 y3 y4 y5 y6 (toldD r))
  case first =>
    have A3:=A2.below (zri _ w2).drew
    clear A2 HA2
    have G0:Blk w2.drew g 67 (hubA (zse sv) (cellC h fd ws))/\Blk w2.drew gq 44 (qv q):=⟨A3.H.b,A3.q⟩
    refine wp_region_held_drew (S:=fun W=>Blk W g 67 (hubA (zse sv) (cellC h fd ws))/\Blk W gq 44 (qv q)) (by kernel_rfl) G0 (fun hHeld=>?_)
    generalize w2.drew=W0 at *
    refine tq 0 ?_
    refine tq 1 ?_
    refine tq 2 ?_
    refine tq 3 ?_ (hv:=by intro w5 hw5;obtain⟨ha_,hb_⟩:=hw5;have f0:w5.cell? ⟨g,0,none⟩=some (zse sv):=(ha_.cell 0).trans xvf;go_simp;(try with_reducible rfl))
    refine tq 4 ?_ (hv:=by intro w5 hw5;obtain⟨ha_,hb_⟩:=hw5;have f0:w5.cell? ⟨g,0,none⟩=some (zse sv):=(ha_.cell 0).trans xvf;have q1:=hb_.cell;go_simp;(try with_reducible rfl))
    refine wpAnyH_ready (rs:=[5,10,11]) (by kernel_rfl) (by simp) ?_
    refine AllReadyH.cons rfl (fun K hK=>?_) (AllReadyH.cons rfl (fun K hK=>?_) (AllReadyH.cons rfl (fun K hK=>?_) AllReadyH.nil))
    go_simp
    refine(HDo.out _ A3.H.s (HT.out _ (A3.C.under HH.out))).mono ?_
    rintro e W1 ⟨x1,x2,x3,x4,x5,x6,y1,y2,y3,y4,y5,y6,rfl,hI,hgw,hD⟩
    have D3:=hD.lower (Nat.zero_le _)
    have A3':=A3.serve hI hgw
    refine hK.out _ _ ⟨A3'.H.b,A3'.q⟩ (fun hHeld=>?_)
    clear hK K A3 hI hgw hD
    have A3:=A3';clear A3'
    (try simp only[Act.put,ma,mb,mc,md,me,mf])
    refine tq 6 ?_
    refine tq 7 ?_
    refine tq 8 ?_
    refine tq 9 ?_
    refine wpAnyH_ready (rs:=[10,11]) (by kernel_rfl) (by simp) ?_
    refine AllReadyH.cons rfl (fun K hK=>?_) (AllReadyH.cons rfl (fun K hK=>?_) AllReadyH.nil)
    go_simp
    have br3:=Blk.new W1 115 #[.int .i64 0,.int .i64 0]
    have lgr:w.heap.size<=W1.heap.size:=A3.new
    have D3':=D3.below ((zri _ _).alloc (zra _) (.cells #[.int .i64 0,.int .i64 0] 115))
    have A3':=A3.alloc (.cells #[.int .i64 0,.int .i64 0] 115)
    generalize W1.alloc (.cells #[.int .i64 0,.int .i64 0] 115)=W2 at *
    generalize W1.heap.size=gr at *
    refine hK.out _ _ ⟨A3'.H.b,A3'.q⟩ (fun hHeld=>?_)
    clear hK K A3 D3
    have A3:=A3';clear A3'
    have D3:=D3';clear D3'
    (try simp only[Act.put,ma,mb,mc,md,me,mf])
    refine tr 11 rfl (fun K hK=>?_)
    go_simp
    have bd3:=Blk.new W2 118 zdv
    have lgd:w.heap.size<=W2.heap.size:=A3.new
    have br3':=br3.below ((zri _ _).alloc (zra _) (.cells zdv 118)) br3.lt
    have D3':=D3.below ((zri _ _).alloc (zra _) (.cells zdv 118))
    have A3':=A3.alloc (.cells zdv 118)
    generalize W2.alloc (.cells zdv 118)=W3 at *
    generalize W2.heap.size=gd at *
    refine hK.out _ _ ⟨A3'.H.b,A3'.q⟩ (fun hHeld=>?_)
    clear hK K A3 br3 D3
    have A3:=A3';clear A3'
    have br3:=br3';clear br3'
    have D3:=D3';clear D3'
    (try simp only[Act.put,ma,mb,mc,md,me,mf])
    rotate_left
    go_simp
    have bd3:=Blk.new W1 118 zdv
    have lgd:w.heap.size<=W1.heap.size:=A3.new
    have D3':=D3.below ((zri _ _).alloc (zra _) (.cells zdv 118))
    have A3':=A3.alloc (.cells zdv 118)
    generalize W1.alloc (.cells zdv 118)=W2 at *
    generalize W1.heap.size=gd at *
    refine hK.out _ _ ⟨A3'.H.b,A3'.q⟩ (fun hHeld=>?_)
    clear hK K A3 D3
    have A3:=A3';clear A3'
    have D3:=D3';clear D3'
    (try simp only[Act.put,ma,mb,mc,md,me,mf])
    refine tr 10 rfl (fun K hK=>?_)
    go_simp
    have br3:=Blk.new W2 115 #[.int .i64 0,.int .i64 0]
    have lgr:w.heap.size<=W2.heap.size:=A3.new
    have bd3':=bd3.below ((zri _ _).alloc (zra _) (.cells #[.int .i64 0,.int .i64 0] 115)) bd3.lt
    have D3':=D3.below ((zri _ _).alloc (zra _) (.cells #[.int .i64 0,.int .i64 0] 115))
    have A3':=A3.alloc (.cells #[.int .i64 0,.int .i64 0] 115)
    generalize W2.alloc (.cells #[.int .i64 0,.int .i64 0] 115)=W3 at *
    generalize W2.heap.size=gr at *
    refine hK.out _ _ ⟨A3'.H.b,A3'.q⟩ (fun hHeld=>?_)
    clear hK K A3 bd3 D3
    have A3:=A3';clear A3'
    have bd3:=bd3';clear bd3'
    have D3:=D3';clear D3'
    (try simp only[Act.put,ma,mb,mc,md,me,mf])
    rotate_left
    go_simp
    have br3:=Blk.new W0 115 #[.int .i64 0,.int .i64 0]
    have lgr:w.heap.size<=W0.heap.size:=A3.new
    have A3':=A3.alloc (.cells #[.int .i64 0,.int .i64 0] 115)
    generalize W0.alloc (.cells #[.int .i64 0,.int .i64 0] 115)=W1 at *
    generalize W0.heap.size=gr at *
    refine hK.out _ _ ⟨A3'.H.b,A3'.q⟩ (fun hHeld=>?_)
    clear hK K A3 
    have A3:=A3';clear A3'
    (try simp only[Act.put,ma,mb,mc,md,me,mf])
    refine wpAnyH_ready (rs:=[5,11]) (by kernel_rfl) (by simp) ?_
    refine AllReadyH.cons rfl (fun K hK=>?_) (AllReadyH.cons rfl (fun K hK=>?_) AllReadyH.nil)
    go_simp
    refine(HDo.out _ A3.H.s (HT.out _ (A3.C.under HH.out))).mono ?_
    rintro e W2 ⟨x1,x2,x3,x4,x5,x6,y1,y2,y3,y4,y5,y6,rfl,hI,hgw,hD⟩
    have D3:=hD.lower (Nat.zero_le _)
    have br3':=vx9 A3.H.s hgw br3 (by decide)
    have A3':=A3.serve hI hgw
    refine hK.out _ _ ⟨A3'.H.b,A3'.q⟩ (fun hHeld=>?_)
    clear hK K A3 hI hgw hD br3
    have A3:=A3';clear A3'
    have br3:=br3';clear br3'
    (try simp only[Act.put,ma,mb,mc,md,me,mf])
    refine tq 6 ?_
    refine tq 7 ?_
    refine tq 8 ?_
    refine tq 9 ?_
    refine tr 11 rfl (fun K hK=>?_)
    go_simp
    have bd3:=Blk.new W2 118 zdv
    have lgd:w.heap.size<=W2.heap.size:=A3.new
    have br3':=br3.below ((zri _ _).alloc (zra _) (.cells zdv 118)) br3.lt
    have D3':=D3.below ((zri _ _).alloc (zra _) (.cells zdv 118))
    have A3':=A3.alloc (.cells zdv 118)
    generalize W2.alloc (.cells zdv 118)=W3 at *
    generalize W2.heap.size=gd at *
    refine hK.out _ _ ⟨A3'.H.b,A3'.q⟩ (fun hHeld=>?_)
    clear hK K A3 br3 D3
    have A3:=A3';clear A3'
    have br3:=br3';clear br3'
    have D3:=D3';clear D3'
    (try simp only[Act.put,ma,mb,mc,md,me,mf])
    rotate_left
    go_simp
    have bd3:=Blk.new W1 118 zdv
    have lgd:w.heap.size<=W1.heap.size:=A3.new
    have br3':=br3.below ((zri _ _).alloc (zra _) (.cells zdv 118)) br3.lt
    have A3':=A3.alloc (.cells zdv 118)
    generalize W1.alloc (.cells zdv 118)=W2 at *
    generalize W1.heap.size=gd at *
    refine hK.out _ _ ⟨A3'.H.b,A3'.q⟩ (fun hHeld=>?_)
    clear hK K A3 br3
    have A3:=A3';clear A3'
    have br3:=br3';clear br3'
    (try simp only[Act.put,ma,mb,mc,md,me,mf])
    refine tr 5 rfl (fun K hK=>?_)
    go_simp
    refine(HDo.out _ A3.H.s (HT.out _ (A3.C.under HH.out))).mono ?_
    rintro e W3 ⟨x1,x2,x3,x4,x5,x6,y1,y2,y3,y4,y5,y6,rfl,hI,hgw,hD⟩
    have D3:=hD.lower (Nat.zero_le _)
    have br3':=vx9 A3.H.s hgw br3 (by decide)
    have bd3':=vx9 A3.H.s hgw bd3 (by decide)
    have A3':=A3.serve hI hgw
    refine hK.out _ _ ⟨A3'.H.b,A3'.q⟩ (fun hHeld=>?_)
    clear hK K A3 hI hgw hD br3 bd3
    have A3:=A3';clear A3'
    have br3:=br3';clear br3'
    have bd3:=bd3';clear bd3'
    (try simp only[Act.put,ma,mb,mc,md,me,mf])
    refine tq 6 ?_
    refine tq 7 ?_
    refine tq 8 ?_
    refine tq 9 ?_
    rotate_left
    go_simp
    have bd3:=Blk.new W0 118 zdv
    have lgd:w.heap.size<=W0.heap.size:=A3.new
    have A3':=A3.alloc (.cells zdv 118)
    generalize W0.alloc (.cells zdv 118)=W1 at *
    generalize W0.heap.size=gd at *
    refine hK.out _ _ ⟨A3'.H.b,A3'.q⟩ (fun hHeld=>?_)
    clear hK K A3 
    have A3:=A3';clear A3'
    (try simp only[Act.put,ma,mb,mc,md,me,mf])
    refine wpAnyH_ready (rs:=[5,10]) (by kernel_rfl) (by simp) ?_
    refine AllReadyH.cons rfl (fun K hK=>?_) (AllReadyH.cons rfl (fun K hK=>?_) AllReadyH.nil)
    go_simp
    refine(HDo.out _ A3.H.s (HT.out _ (A3.C.under HH.out))).mono ?_
    rintro e W2 ⟨x1,x2,x3,x4,x5,x6,y1,y2,y3,y4,y5,y6,rfl,hI,hgw,hD⟩
    have D3:=hD.lower (Nat.zero_le _)
    have bd3':=vx9 A3.H.s hgw bd3 (by decide)
    have A3':=A3.serve hI hgw
    refine hK.out _ _ ⟨A3'.H.b,A3'.q⟩ (fun hHeld=>?_)
    clear hK K A3 hI hgw hD bd3
    have A3:=A3';clear A3'
    have bd3:=bd3';clear bd3'
    (try simp only[Act.put,ma,mb,mc,md,me,mf])
    refine tq 6 ?_
    refine tq 7 ?_
    refine tq 8 ?_
    refine tq 9 ?_
    refine tr 10 rfl (fun K hK=>?_)
    go_simp
    have br3:=Blk.new W2 115 #[.int .i64 0,.int .i64 0]
    have lgr:w.heap.size<=W2.heap.size:=A3.new
    have bd3':=bd3.below ((zri _ _).alloc (zra _) (.cells #[.int .i64 0,.int .i64 0] 115)) bd3.lt
    have D3':=D3.below ((zri _ _).alloc (zra _) (.cells #[.int .i64 0,.int .i64 0] 115))
    have A3':=A3.alloc (.cells #[.int .i64 0,.int .i64 0] 115)
    generalize W2.alloc (.cells #[.int .i64 0,.int .i64 0] 115)=W3 at *
    generalize W2.heap.size=gr at *
    refine hK.out _ _ ⟨A3'.H.b,A3'.q⟩ (fun hHeld=>?_)
    clear hK K A3 bd3 D3
    have A3:=A3';clear A3'
    have bd3:=bd3';clear bd3'
    have D3:=D3';clear D3'
    (try simp only[Act.put,ma,mb,mc,md,me,mf])
    rotate_left
    go_simp
    have br3:=Blk.new W1 115 #[.int .i64 0,.int .i64 0]
    have lgr:w.heap.size<=W1.heap.size:=A3.new
    have bd3':=bd3.below ((zri _ _).alloc (zra _) (.cells #[.int .i64 0,.int .i64 0] 115)) bd3.lt
    have A3':=A3.alloc (.cells #[.int .i64 0,.int .i64 0] 115)
    generalize W1.alloc (.cells #[.int .i64 0,.int .i64 0] 115)=W2 at *
    generalize W1.heap.size=gr at *
    refine hK.out _ _ ⟨A3'.H.b,A3'.q⟩ (fun hHeld=>?_)
    clear hK K A3 bd3
    have A3:=A3';clear A3'
    have bd3:=bd3';clear bd3'
    (try simp only[Act.put,ma,mb,mc,md,me,mf])
    refine tr 5 rfl (fun K hK=>?_)
    go_simp
    refine(HDo.out _ A3.H.s (HT.out _ (A3.C.under HH.out))).mono ?_
    rintro e W3 ⟨x1,x2,x3,x4,x5,x6,y1,y2,y3,y4,y5,y6,rfl,hI,hgw,hD⟩
    have D3:=hD.lower (Nat.zero_le _)
    have br3':=vx9 A3.H.s hgw br3 (by decide)
    have bd3':=vx9 A3.H.s hgw bd3 (by decide)
    have A3':=A3.serve hI hgw
    refine hK.out _ _ ⟨A3'.H.b,A3'.q⟩ (fun hHeld=>?_)
    clear hK K A3 hI hgw hD br3 bd3
    have A3:=A3';clear A3'
    have br3:=br3';clear br3'
    have bd3:=bd3';clear bd3'
    (try simp only[Act.put,ma,mb,mc,md,me,mf])
    refine tq 6 ?_
    refine tq 7 ?_
    refine tq 8 ?_
    refine tq 9 ?_
    rotate_left
    all_goals
      have A4:=A3.row br3 (.inl rfl) lgr #[.int .i64 (r.code:Int),.int .i64 r.srv.st.rev]
      have D4:=D3.offs (growR W3 gr #[.int .i64 (r.code:Int),.int .i64 r.srv.st.rev]) br3 (.inl rfl)
      have bd4:=bd3.far_row (bd3.ne_ br3 (by decide)) #[.int .i64 (r.code:Int),.int .i64 r.srv.st.rev]
      have br4:=br3.setRow #[.int .i64 (r.code:Int),.int .i64 r.srv.st.rev]
      refine tr 12 rfl (fun K hK=>?_)
      refine uxi rfl _ _ _ rfl gr rfl _ _ #[.int .i64 (r.code:Int),.int .i64 r.srv.st.rev] br3 rfl ujy rfl (vjx _ _) ?_
      refine hK.out _ _ ⟨A4.H.b,A4.q⟩ (fun hHeld=>?_)
      clear hK K A3 D3 bd3 br3
      (try simp only[Act.put,ma,mb,mc,md,me,mf])
      generalize W3.setRow gr _=W4 at *
      have A5:=A4.row bd4 (.inr rfl) lgd #[.int .i64 (toldD r).frm,.int .i64 (toldD r).upto,.slice x1 (toldD r).jobs.length y1,.slice x2 (toldD r).nodes.length y2,.slice x3 (toldD r).leases.length y3,.slice x4 (toldD r).gj.length y4,.slice x5 (toldD r).gn.length y5,.slice x6 (toldD r).gl.length y6]
      have D5:=D4.offs (growR W4 gd #[.int .i64 (toldD r).frm,.int .i64 (toldD r).upto,.slice x1 (toldD r).jobs.length y1,.slice x2 (toldD r).nodes.length y2,.slice x3 (toldD r).leases.length y3,.slice x4 (toldD r).gj.length y4,.slice x5 (toldD r).gn.length y5,.slice x6 (toldD r).gl.length y6]) bd4 (.inr rfl)
      have br5:=br4.far_row (br4.ne_ bd4 (by decide)) #[.int .i64 (toldD r).frm,.int .i64 (toldD r).upto,.slice x1 (toldD r).jobs.length y1,.slice x2 (toldD r).nodes.length y2,.slice x3 (toldD r).leases.length y3,.slice x4 (toldD r).gj.length y4,.slice x5 (toldD r).gn.length y5,.slice x6 (toldD r).gl.length y6]
      have bd5:=bd4.setRow #[.int .i64 (toldD r).frm,.int .i64 (toldD r).upto,.slice x1 (toldD r).jobs.length y1,.slice x2 (toldD r).nodes.length y2,.slice x3 (toldD r).leases.length y3,.slice x4 (toldD r).gj.length y4,.slice x5 (toldD r).gn.length y5,.slice x6 (toldD r).gl.length y6]
      refine tr 13 rfl (fun K hK=>?_)
      refine uxi rfl _ _ _ rfl gd rfl _ _ #[.int .i64 (toldD r).frm,.int .i64 (toldD r).upto,.slice x1 (toldD r).jobs.length y1,.slice x2 (toldD r).nodes.length y2,.slice x3 (toldD r).leases.length y3,.slice x4 (toldD r).gj.length y4,.slice x5 (toldD r).gn.length y5,.slice x6 (toldD r).gl.length y6] bd4 rfl uqv rfl (ukj _ _ _ _ _ _ _ _ _ _ _ _ _ _ _ _ _ _ _ _) ?_
      refine hK.out _ _ ⟨A5.H.b,A5.q⟩ (fun hHeld=>?_)
      clear hK K A4 D4 bd4 br4
      (try simp only[Act.put,ma,mb,mc,md,me,mf])
      generalize W4.setRow gd _=W5 at *
      refine tq 14 ?_
      refine wpAnyH_done (by kernel_rfl) ?_ _
      go_wp2_with fail
      go_meet
      exact⟨gr,gd,x1,x2,x3,x4,x5,x6,y1,y2,y3,y4,y5,y6,rfl,rfl,rfl,A5,br5,bd5,D5⟩
  case rest =>
    obtain⟨gr,gd,x1,x2,x3,x4,x5,x6,y1,y2,y3,y4,y5,y6,rfl,rfl,rfl,A6,br6,bd6,D6⟩:=hcut
    have hrep:=zrj (vjt A6.H hk r.code r.srv.st.rev (by have:=HLe.out;omega) (by have:=HVo.out.1.rev;omega) (by have:=HZ.out k hk;show(encs (h.c k).waits).length<=_;omega))
    go_wp2_with(first | (refine uqw (by rfl) _ _ rfl gr rfl _ _ br6 _ underlying115 rfl ujy ?_))
    refine hrep.out.mono ?_
    rintro e w7 ⟨rfl,ws7,H7,C7⟩
    have br7:=C7.blk A6.H br6 (by decide) (by decide) (by decide) (by decide)
    have bd7:=C7.blk A6.H bd6 (by decide) (by decide) (by decide) (by decide)
    have bq7:=C7.blk A6.H A6.q (by decide) (by decide) (by decide) (by decide)
    have D7:=zrj (D6.tch A6.H C7.t)
    have CC7:=zrj (A6.C.trans C7)
    have hz7:∀i,i<8->(encs (((⟨r.srv,h.c⟩:HubD).app k (repF r.code r.srv.st.rev)).c i).waits).length<=140737488210000:=by
      intro i hi
      have h1:=HZ.out i hi
      have h2:=vvw 4 (encPR (r.code:Int) r.srv.st.rev).1
      unfold HubD.app HubD.upd
      simp only
      by_cases hik:i=k
      · subst hik
        rw[if_pos rfl]
        show(encs ((h.c i).waits++frF 4 _)).length<=_
        rw[uxv,zrb]
        omega
      · rw[if_neg hik];show(encs (h.c i).waits).length<=_;omega
    have hs7:((⟨r.srv,h.c⟩:HubD).app k (repF r.code r.srv.st.rev)).srv=r.srv:=rfl
    have HT1:=zrj (fun hc:r.code=0/\(q.kind=8\/q.kind=9)=>(show h.told k q=(((⟨r.srv,h.c⟩:HubD).app k (repF r.code r.srv.st.rev)).app k (telF r.srv)).upd k { (((⟨r.srv,h.c⟩:HubD).app k (repF r.code r.srv.st.rev)).app k (telF r.srv)).c k with watch:=(((⟨r.srv,h.c⟩:HubD).app k (repF r.code r.srv.st.rev)).c k).watch||decide (q.kind=9) } from HTo.out.trans (if_pos hc)))
    have HT2:=zrj (fun hc:¬(r.code=0/\(q.kind=8\/q.kind=9))=>(show h.told k q=((⟨r.srv,h.c⟩:HubD).app k (repF r.code r.srv.st.rev)) from HTo.out.trans (if_neg hc)))
    generalize((⟨r.srv,h.c⟩:HubD).app k (repF r.code r.srv.st.rev))=h7 at *
    have HZ7:=zrj hz7
    have HH7:=zrj H7
    have q0:=bq7.c0
    have r0:=br7.c0
    have F7:=zrj (show Fine h7.srv.st by rw[hs7];exact HVo.out.1)
    have hB7:=zrj (CC7.out.under HH.out)
    clear A6 br6 bd6 D6 C7 hrep hz7 H7 HTo HDo HZ
    by_cases hcd:r.code=0
    · have e0:((r.code:Int) == 0)=true:=by rw[hcd];rfl
      by_cases hk8:q.kind=8\/q.kind=9
      · have hno:=(HNo.out (.inr hk8))
        have hsn:r.told.isSome=false:=by rw[hno];rfl
        have HE:=zrj (show h.asked k q=(h7.app k (telF r.srv)).upd k { (h7.app k (telF r.srv)).c k with watch:=(h7.c k).watch||decide (q.kind=9) } from HAs.out.trans (by rw[hsn,if_neg (by decide)];exact(HT1.out ⟨hcd,hk8⟩)))
        have HTl7:=zrj (wjg HH7.out hk F7.out (fun W hW=>HT.out W (hB7.out.trans hW)) (by have:=HZ7.out k hk;omega))
        clear HT1 HT2 HAs HTl HNo hno hcd
        have hw8:((h7.app k (telF h7.srv)).c k).watch=(h7.c k).watch:=by unfold HubD.app;rw[uqs];(try rfl)
        rw[<- hs7] at HE
        generalize hwt:(h7.c k).watch=wt at *
        by_cases k8:q.kind=8
        · have b8:(q.kind == 8)=true:=by rw[beq_iff_eq];exact k8
          have b9:(q.kind == 9)=false:=by rw[zrf];omega
          have hdc:decide (q.kind=9)=false:=by simp;omega
          rw[hdc,Bool.or_false] at HE
          clear hk8 k8 hdc
          cases wt
          · go_wp2_with fail
            refine HTl7.out.mono ?_
            rintro e w8 ⟨rfl,ws8,H8,C8⟩
            have c8:w8.cell? ⟨g,1+k*4+2,none⟩=some (.bool false):=by rw[H8.at_wt hk,hw8]
            have f8:w8.frozen? ⟨g,1+k*4+2,none⟩=false:=H8.b.frozen _
            have q8:=C8.blk HH7.out bq7 (by decide) (by decide) (by decide) (by decide)
            have q08:=q8.c0
            have HL8:=zrj (H8.looks hk)
            have HC8:=zrj (CC7.out.trans C8)
            clear H8 C8 q8
            go_wp2_with fail
            first | go_end0 | ((try simp only[Exit.inBlock,Exit.then]);refine bodyPost_ret (results_none rfl _ _ _) rfl ?_)
            rw[HE.out]
            exact⟨rfl,ws8,HL8.out _,HC8.out.cell _ _⟩
          · go_wp2_with fail
            refine HTl7.out.mono ?_
            rintro e w8 ⟨rfl,ws8,H8,C8⟩
            have c8:w8.cell? ⟨g,1+k*4+2,none⟩=some (.bool true):=by rw[H8.at_wt hk,hw8]
            have f8:w8.frozen? ⟨g,1+k*4+2,none⟩=false:=H8.b.frozen _
            have q8:=C8.blk HH7.out bq7 (by decide) (by decide) (by decide) (by decide)
            have q08:=q8.c0
            have HL8:=zrj (H8.looks hk)
            have HC8:=zrj (CC7.out.trans C8)
            clear H8 C8 q8
            go_wp2_with fail
            first | go_end0 | ((try simp only[Exit.inBlock,Exit.then]);refine bodyPost_ret (results_none rfl _ _ _) rfl ?_)
            rw[HE.out]
            exact⟨rfl,ws8,HL8.out _,HC8.out.cell _ _⟩
        · have k9:q.kind=9:=by rcases hk8 with h | h;exact absurd h k8;exact h
          have b8:(q.kind == 8)=false:=by rw[zrf];exact k8
          have b9:(q.kind == 9)=true:=by rw[beq_iff_eq];exact k9
          have hdc:decide (q.kind=9)=true:=by simp[k9]
          rw[hdc,Bool.or_true] at HE
          clear hk8 k8 hdc k9
          cases wt
          · go_wp2_with fail
            refine HTl7.out.mono ?_
            rintro e w8 ⟨rfl,ws8,H8,C8⟩
            have c8:w8.cell? ⟨g,1+k*4+2,none⟩=some (.bool false):=by rw[H8.at_wt hk,hw8]
            have f8:w8.frozen? ⟨g,1+k*4+2,none⟩=false:=H8.b.frozen _
            have q8:=C8.blk HH7.out bq7 (by decide) (by decide) (by decide) (by decide)
            have q08:=q8.c0
            have HL8:=zrj (H8.looks hk)
            have HC8:=zrj (CC7.out.trans C8)
            clear H8 C8 q8
            go_wp2_with fail
            first | go_end0 | ((try simp only[Exit.inBlock,Exit.then]);refine bodyPost_ret (results_none rfl _ _ _) rfl ?_)
            rw[HE.out]
            exact⟨rfl,ws8,HL8.out _,HC8.out.cell _ _⟩
          · go_wp2_with fail
            refine HTl7.out.mono ?_
            rintro e w8 ⟨rfl,ws8,H8,C8⟩
            have c8:w8.cell? ⟨g,1+k*4+2,none⟩=some (.bool true):=by rw[H8.at_wt hk,hw8]
            have f8:w8.frozen? ⟨g,1+k*4+2,none⟩=false:=H8.b.frozen _
            have q8:=C8.blk HH7.out bq7 (by decide) (by decide) (by decide) (by decide)
            have q08:=q8.c0
            have HL8:=zrj (H8.looks hk)
            have HC8:=zrj (CC7.out.trans C8)
            clear H8 C8 q8
            go_wp2_with fail
            first | go_end0 | ((try simp only[Exit.inBlock,Exit.then]);refine bodyPost_ret (results_none rfl _ _ _) rfl ?_)
            rw[HE.out]
            exact⟨rfl,ws8,HL8.out _,HC8.out.cell _ _⟩
      · have b8:(q.kind == 8)=false:=by rw[zrf];omega
        have b9:(q.kind == 9)=false:=by rw[zrf];omega
        have HTe:=zrj (HT2.out (fun hc=>hk8 hc.2))
        clear HT1 HT2 hk8 hcd HNo
        cases hsn:r.told.isSome
        · have HE:=zrj (show h.asked k q=h7 from HAs.out.trans (by rw[hsn,if_neg (by decide)];exact HTe.out))
          clear HAs HTe HTl
          go_wp2_with fail
          first | go_end0 | ((try simp only[Exit.inBlock,Exit.then]);refine bodyPost_ret (results_none rfl _ _ _) rfl ?_)
          rw[HE.out]
          exact⟨rfl,ws7,HH7.out,CC7.out⟩
        · have HE:=zrj (show h.asked k q=h7.changed (toldD r) from HAs.out.trans (by rw[hsn,if_pos rfl,HTe.out]))
          have HDk:=zrj (HTl.out hsn)
          clear HAs HTe HTl
          go_wp2_with(first | (refine uqw (by rfl) _ _ rfl gd rfl _ _ bd7 _ underlying118 rfl uqv ?_))
          refine(wjc HH7.out (toldD r) x1 x2 x3 x4 x5 x6 y1 y2 y3 y4 y5 y6 D7.out.m HDk.out F7.out (fun W hW=>HT.out W (hB7.out.trans hW)) (fun i hi=>by have:=HZ7.out i hi;omega)).mono ?_
          rintro e w8 ⟨rfl,ws8,H8,C8⟩
          go_wp2_with fail
          first | go_end0 | ((try simp only[Exit.inBlock,Exit.then]);refine bodyPost_ret (results_none rfl _ _ _) rfl ?_)
          rw[HE.out]
          exact⟨rfl,ws8,H8,CC7.out.trans C8⟩
    · have e0:((r.code:Int) == 0)=false:=by rw[zrf];omega
      have hno:=(HNo.out (.inl hcd))
      have hsn:r.told.isSome=false:=by rw[hno];rfl
      have HE:=zrj (show h.asked k q=h7 from HAs.out.trans (by rw[hsn,if_neg (by decide)];exact(HT2.out (fun hc=>hcd hc.1))))
      clear HT1 HT2 HAs HTl HNo hno hcd
      go_wp2_with fail
      first | go_end0 | ((try simp only[Exit.inBlock,Exit.then]);refine bodyPost_ret (results_none rfl _ _ _) rfl ?_)
      rw[HE.out]
      exact⟨rfl,ws7,HH7.out,CC7.out⟩
end Go.Proofs.YtknmnhleicakhaaGreatDoor
