/- Lemmas.
-/
import Derived.Test.YtknmnhleicakhaaGreatDoorPtFolA
import Derived.Test.YtknmnhleicakhaaGreatDoorPtTakeD
import Derived.Test.YtknmnhleicakhaaGreatDoorPtApply
import Derived.Test.YtknmnhleicakhaaGreatDoorPtSvDoA
set_option linter.all false
set_option maxHeartbeats 16000000
set_option maxRecDepth 100000
namespace Go.Proofs.YtknmnhleicakhaaGreatDoor
open Go.Proofs.Tryz
open Go.RowKit
theorem wkx {w:World} {n:Nat} (h:w.heap.size=n) (t:TypeId) (cs:Array Value):Blk (w.alloc (.cells cs t)) n t cs:=h ▸ Blk.new w t cs
theorem delOk_f {d:uq0} (h:uxn d=0):DelOk d :=
  have G:=wk7 h
  { sz:=⟨by have:=G.lj;omega,by have:=G.ln;omega,by have:=G.ll;omega,by have:=G.gj;omega,by have:=G.gn;omega,by have:=G.gl;omega⟩
    j:=fun x hx=>by have h1:=(uwu.1 (G.j.1 x hx)).1;exact⟨zrc (uxb h1.1) (by decide),zrc (uz8 h1.2) (by decide)⟩
    n:=fun x hx=>by have h1:=(uki.1 (G.n.1 x hx)).1;exact⟨zrc (uxb h1.1) (by decide),zrc (uz8 h1.2) (by decide)⟩
    l:=fun x hx=>by have h1:=vqq (G.l.1 x hx);exact⟨zrc (uxb h1.1) (by decide),zrc (uxb h1.2.1) (by decide)⟩
    gj:=fun s hs=>zrc (uxb (G.hj.1 s hs).1) (by decide)
    gn:=fun s hs=>zrc (uxb (G.hn.1 s hs).1) (by decide)
    gl:=fun s hs=>zrc (uxb (G.hl.1 s hs).1) (by decide) }
def FolQ (w:World) (f fd:Nat) (R:Nat->Prop) (x:FolD) (w':World):Prop:=∃v' R',FolM w' f fd R' x v'/\HTch (FolT f fd) w w'/\∀k,R' k->R k\/w.heap.size<=k
section
variable {w w':World} {f fd:Nat} {R:Nat->Prop} {x:FolD} {v:Value}
theorem FolM.same (h:FolM w f fd R x v) (hb:Below w.heap.size w w'):FolQ w f fd R x w':=⟨v,R,h.below hb,HTch.of_below hb,fun k hk=>.inl hk⟩
theorem FolM.wrote (h:FolM w f fd R x v) (T:HTch (fun k=>k=f) w w') {v':Value} (hf:Blk w' f 71 #[zse fd,v']) {st:Option St} (hs:StPtr w' (fun k=>w.heap.size<=k/\k<w'.heap.size) v' st):FolQ w f fd R ⟨x.L,st⟩ w' :=
  ⟨v',fun k=>R k\/(w.heap.size<=k/\k<w'.heap.size),⟨hf,hs.mono fun k hk=>⟨.inr hk,fun e=>by have h1:=h.u f h.r.1;have h2:=h.u fd h.r.2;rcases e with e | e <;> omega⟩,h.e.tch T (fun e=>h.ne e.symm),⟨.inl h.r.1,.inl h.r.2⟩,fun k hk=>hk.elim (fun hk=>Nat.lt_of_lt_of_le (h.u k hk) T.size) (·.2)⟩,T.mono fun k hk=>.inl hk,fun k hk=>hk.imp id (·.1)⟩
end
theorem HTch.rowAt (W:World) (g:Nat) (cs:Array Value) {O:Nat->Prop} (hO:O g):HTch O W (W.setRow g cs):=HTch.of_grown (growR W g cs) fun k hk=>by injection hk with hk;subst hk;exact hO
theorem HTch.cellAt (W:World) (g o:Nat) (v:Value) {O:Nat->Prop} (hO:O g):HTch O W (W.setCell ⟨g,o,none⟩ v):=HTch.of_grown (ux4 W g o v) fun k hk=>by injection hk with hk;subst hk;exact hO
theorem uyu (f fd:Nat) (R:Nat->Prop) (x0:FolD) (v:Value) (x:Fr) (w:World) (B:Nat) (M:FolM w f fd R x0 v) (hok:FolOk x0.st) (hpl:x.pl.length<=6000) (HTb:∀W,Below B w W->Tabs W) (hB:B<=w.heap.size) (h:x.ver≠3\/(x.kind≠1/\x.kind≠2)\/(x.ver=3/\x.kind=2/\x0.st=none)) :
    Calls prog 26 #[zse f,.agg #[.int .i64 (x.ver:Int),.int .i64 (x.kind:Int),.string (bstr x.pl)]] w fun e w'=>e=.returned (.int .i64 ((folFr x0.st x).2:Int))/\FolQ w f fd R ⟨x0.L,(folFr x0.st x).1⟩ w':=by
  have hs1:=zsb w (.cells #[.int .i64 (x.ver:Int),.int .i64 (x.kind:Int),.string (bstr x.pl)] 75)
  have hb1:=zsa w (.cells #[.int .i64 (x.ver:Int),.int .i64 (x.kind:Int),.string (bstr x.pl)] 75)
  have bx0:=(Blk.new w 75 #[.int .i64 (x.ver:Int),.int .i64 (x.kind:Int),.string (bstr x.pl)]).alloc (.cells zsv 26)
  have bz0:Blk ((w.alloc (.cells #[.int .i64 (x.ver:Int),.int .i64 (x.kind:Int),.string (bstr x.pl)] 75)).alloc (.cells zsv 26)) (w.heap.size+1) 26 zsv:=by
    have:=Blk.new (w.alloc (.cells #[.int .i64 (x.ver:Int),.int .i64 (x.kind:Int),.string (bstr x.pl)] 75)) 26 zsv
    rwa [hs1] at this
  have hb0:=hb1.alloc hb1.size (.cells zsv 26)
  have bf0:=M.b.below hb0 M.b.lt
  have x0_:=bx0.cell 0
  have x1_:=bx0.cell 1
  have x2_:=bx0.cell 2
  have f1_:=bf0.cell 1
  have hzs:=uq3
  clear hs1 hb1
  have HF:folFr x0.st x=(x0.st,0):=by
    unfold folFr
    rcases h with h | ⟨h1,h2⟩ | ⟨h1,h2,h3⟩
    · rw[if_pos h]
    · rw[if_neg h1,if_neg h2]
      split <;> rfl
    · rw[if_neg (by omega),if_neg (by omega),if_pos h2,h3]
  rw[HF]
  have HM:=zrj M
  by_cases h3:x.ver=3
  · have n1:((x.ver:Int) != 3)=false:=by rw[bne_eq_false_iff_eq];omega
    have n2:((x.kind:Int) == 1)=false:=by rw[zrf];rcases h with h | h | h <;> omega
    by_cases h2:x.kind=2
    · have n3:((x.kind:Int) == 2)=true:=by rw[beq_iff_eq];omega
      have hst:x0.st=none:=by rcases h with h | h | h;exact absurd h3 h;exact absurd h2 h.2;exact h.2.2
      have hv:v=.pointer none:=by have:=M.s;rw[hst] at this;exact this
      subst hv
      clear h h3 h2 HF hok hst M
      go_enter func26,ntmps26
      go_wp2_with fail
      go_ret
      exact⟨rfl,HM.out.same hb0⟩
    · have n3:((x.kind:Int) == 2)=false:=by rw[zrf];omega
      clear h h3 h2 HF hok M
      go_enter func26,ntmps26
      go_wp2_with fail
      go_ret
      exact⟨rfl,HM.out.same hb0⟩
  · have n1:((x.ver:Int) != 3)=true:=by rw[bne_iff_ne];omega
    clear h h3 HF hok M
    go_enter func26,ntmps26
    go_wp2_with fail
    go_ret
    exact⟨rfl,HM.out.same hb0⟩
theorem vw7 (f fd:Nat) (R:Nat->Prop) (x0:FolD) (v:Value) (x:Fr) (w:World) (B:Nat) (M:FolM w f fd R x0 v) (hok:FolOk x0.st) (hpl:x.pl.length<=6000) (HTb:∀W,Below B w W->Tabs W) (hB:B<=w.heap.size) (h3:x.ver=3) (h1:x.kind=1) :
    Calls prog 26 #[zse f,.agg #[.int .i64 (x.ver:Int),.int .i64 (x.kind:Int),.string (bstr x.pl)]] w fun e w'=>e=.returned (.int .i64 ((folFr x0.st x).2:Int))/\FolQ w f fd R ⟨x0.L,(folFr x0.st x).1⟩ w':=by
  have hs1:=zsb w (.cells #[.int .i64 (x.ver:Int),.int .i64 (x.kind:Int),.string (bstr x.pl)] 75)
  have hb1:=zsa w (.cells #[.int .i64 (x.ver:Int),.int .i64 (x.kind:Int),.string (bstr x.pl)] 75)
  have bx0:=(Blk.new w 75 #[.int .i64 (x.ver:Int),.int .i64 (x.kind:Int),.string (bstr x.pl)]).alloc (.cells zsv 26)
  have bz0:Blk ((w.alloc (.cells #[.int .i64 (x.ver:Int),.int .i64 (x.kind:Int),.string (bstr x.pl)] 75)).alloc (.cells zsv 26)) (w.heap.size+1) 26 zsv:=by
    have:=Blk.new (w.alloc (.cells #[.int .i64 (x.ver:Int),.int .i64 (x.kind:Int),.string (bstr x.pl)] 75)) 26 zsv
    rwa [hs1] at this
  have hb0:=hb1.alloc hb1.size (.cells zsv 26)
  have bf0:=M.b.below hb0 M.b.lt
  have x0_:=bx0.cell 0
  have x1_:=bx0.cell 1
  have x2_:=bx0.cell 2
  have f1_:=bf0.cell 1
  have hzs:=uq3
  clear hs1 hb1
  have HM:=zrj M
  have n1:((x.ver:Int) != 3)=false:=by rw[bne_eq_false_iff_eq];omega
  have n2:((x.kind:Int) == 1)=true:=by rw[beq_iff_eq];omega
  have HD:=zrj (wzn (bstr x.pl) 3 ((w.alloc (.cells #[.int .i64 (x.ver:Int),.int .i64 (x.kind:Int),.string (bstr x.pl)] 75)).alloc (.cells zsv 26)) (by rw[uqz];omega) (HTb _ (hb0.mono hB)))
  have HFo:=zrj (show folFr x0.st x=(if(decT 3 x.pl).2=0 then some (decT 3 x.pl).1 else none,(decT 3 x.pl).2) by unfold folFr;rw[if_neg (by omega),if_pos h1])
  rw[show(bstr x.pl).data.toList=x.pl from uqu _] at HD
  clear h3 h1 hok HTb M
  go_enter func26,ntmps26
  go_wp2_with fail
  generalize(w.alloc _).alloc _=W0 at *
  refine HD.out.mono ?_
  rintro e w1 ⟨s,er,p1,p2,p3,c1,c2,c3,rfl,hm,⟨a1,a2,a3⟩,hb1,hd⟩
  rw[hd] at HFo
  have hz0:=bz0.lt
  have bz1:=bz0.bl hb1
  have bf1:=bf0.bl hb1
  have hbW:=bthen hb0 hb1
  have hsz:=hb0.size
  clear hd HD bz0 bf0 x0_ x1_ x2_ f1_ bx0
  have bs2:=bz1.setRow (stv s p1 p2 p3 c1 c2 c3)
  have hfl0:f<w.heap.size:=HM.out.b.lt
  have bf2:=Blk.far_row bf1 (show f≠w.heap.size+1 by omega) (stv s p1 p2 p3 c1 c2 c3)
  have T12:HTch (fun k=>k=w.heap.size+1) w1 (w1.setRow (w.heap.size+1) (stv s p1 p2 p3 c1 c2 c3)):=HTch.rowAt w1 _ _ rfl
  have T2:HTch (fun k=>k=f) w (w1.setRow (w.heap.size+1) (stv s p1 p2 p3 c1 c2 c3)):=(HTch.of_below hbW).trans T12 (fun k hk h=>by subst h;omega)
  have hm2:=hm.tchN T12 (fun _ a ha (e:a.block=_)=>by have:=a1 a ha;omega) (fun _ a ha (e:a.block=_)=>by have:=a2 a ha;omega) (fun _ a ha (e:a.block=_)=>by have:=a3 a ha;omega)
  have a1:∀a,p1=some a->w.heap.size<=a.block:=fun a ha=>zrc hsz (a1 a ha)
  have a2:∀a,p2=some a->w.heap.size<=a.block:=fun a ha=>zrc hsz (a2 a ha)
  have a3:∀a,p3=some a->w.heap.size<=a.block:=fun a ha=>zrc hsz (a3 a ha)
  go_upto_region 13 with(first | (refine uqc rfl _ _ _ rfl (w.heap.size+1) rfl _ _ (stv s p1 p2 p3 c1 c2 c3) bz1 rfl uqg rfl (ux8 _ _ _ _ _ _ _ _ _ _) ?_))
  clear T12 bz1 bf1 hm hb1 hbW hb0
  generalize w1.setRow _ _=W2 at *
  have f1:=bf2.cell 1
  have ff:=bf2.frozen 1
  have bA:=bf2.set_ 1 (.pointer none)
  have TA:=T2.trans (HTch.cellAt W2 f 1 (.pointer none) (O:=fun k=>k=f) rfl) (fun _ _ h=>h)
  have hfl:f<w.heap.size:=HM.out.b.lt
  by_cases her:er=0
  · have e0:((er:Int) == 0)=true:=by rw[her];rfl
    have cA:(W2.setCell ⟨f,1,none⟩ (.pointer none)).cell? ⟨f,1,none⟩=some (.pointer none):=bA.cell 1
    have fA:=bA.frozen 1
    have bB:=bA.set_ 1 (zse (w.heap.size+1))
    have T24:HTch (fun k=>k=f) W2 ((W2.setCell ⟨f,1,none⟩ (.pointer none)).setCell ⟨f,1,none⟩ (zse (w.heap.size+1))):=(HTch.cellAt W2 f 1 (.pointer none) (O:=fun k=>k=f) rfl).trans (HTch.cellAt _ f 1 _ (O:=fun k=>k=f) rfl) (fun _ _ h=>h)
    have TB:=T2.trans T24 (fun _ _ h=>h)
    have bS:=T24.blk bs2 (show ¬(w.heap.size+1=f) by omega)
    have mS:=hm2.tchN T24 (fun _ a ha (e:a.block=f)=>by have:=a1 a ha;omega) (fun _ a ha (e:a.block=f)=>by have:=a2 a ha;omega) (fun _ a ha (e:a.block=f)=>by have:=a3 a ha;omega)
    obtain⟨u1,u2,u3⟩:=mS.inR
    have HQ:=zrj (HM.out.wrote (st:=some s) TB bB ⟨w.heap.size+1,p1,p2,p3,c1,c2,c3,rfl,bS,⟨Nat.le_succ _,bS.lt⟩,mS,fun hn a ha=>⟨a1 a ha,u1 hn a ha⟩,fun hn a ha=>⟨a2 a ha,u2 hn a ha⟩,fun hn a ha=>⟨a3 a ha,u3 hn a ha⟩⟩)
    have HF:folFr x0.st x=(some s,0):=HFo.out.trans (by rw[her];rfl)
    have HFo2:=zrj HF
    clear HFo HF bB T24 TB bS mS u1 u2 u3 bA TA T2 bf2 bs2 hm2
    subst her
    go_wp2_with fail
    go_ret
    rw[HFo2.out]
    exact⟨rfl,HQ.out⟩
  · have e0:((er:Int) == 0)=false:=by rw[zrf];omega
    have HQ:=zrj (HM.out.wrote (st:=none) TA bA rfl)
    have HF:folFr x0.st x=(none,er):=HFo.out.trans (by rw[if_neg her])
    have HFo2:=zrj HF
    clear HFo HF bA TA T2 bf2 bs2 hm2
    go_wp2_with fail
    go_ret
    rw[HFo2.out]
    exact⟨rfl,HQ.out⟩
theorem vw6 (f fd:Nat) (R:Nat->Prop) (x0:FolD) (v:Value) (x:Fr) (w:World) (B:Nat) (M:FolM w f fd R x0 v) (hok:FolOk x0.st) (hpl:x.pl.length<=6000) (HTb:∀W,Below B w W->Tabs W) (hB:B<=w.heap.size) (t:St) (h3:x.ver=3) (h2:x.kind=2) (hst:x0.st=some t) :
    Calls prog 26 #[zse f,.agg #[.int .i64 (x.ver:Int),.int .i64 (x.kind:Int),.string (bstr x.pl)]] w fun e w'=>e=.returned (.int .i64 ((folFr x0.st x).2:Int))/\FolQ w f fd R ⟨x0.L,(folFr x0.st x).1⟩ w':=by
  have hs1:=zsb w (.cells #[.int .i64 (x.ver:Int),.int .i64 (x.kind:Int),.string (bstr x.pl)] 75)
  have hb1:=zsa w (.cells #[.int .i64 (x.ver:Int),.int .i64 (x.kind:Int),.string (bstr x.pl)] 75)
  have bx0:=(Blk.new w 75 #[.int .i64 (x.ver:Int),.int .i64 (x.kind:Int),.string (bstr x.pl)]).alloc (.cells zsv 26)
  have bz0:Blk ((w.alloc (.cells #[.int .i64 (x.ver:Int),.int .i64 (x.kind:Int),.string (bstr x.pl)] 75)).alloc (.cells zsv 26)) (w.heap.size+1) 26 zsv:=by
    have:=Blk.new (w.alloc (.cells #[.int .i64 (x.ver:Int),.int .i64 (x.kind:Int),.string (bstr x.pl)] 75)) 26 zsv
    rwa [hs1] at this
  have hb0:=hb1.alloc hb1.size (.cells zsv 26)
  have bf0:=M.b.below hb0 M.b.lt
  have x0_:=bx0.cell 0
  have x1_:=bx0.cell 1
  have x2_:=bx0.cell 2
  have f1_:=bf0.cell 1
  have hzs:=uq3
  clear hs1 hb1
  have HM:=zrj M
  have hzd:=ux6
  have hpt:=M.s
  rw[hst] at hpt
  obtain⟨b,m1,m2,m3,k1,k2,k3,rfl,hbb,hRb,hmt,in1,in2,in3⟩:=hpt
  have Ft:=zrj ((uxp t).1 (hok t hst))
  have n1:((x.ver:Int) != 3)=false:=by rw[bne_eq_false_iff_eq];omega
  have n2:((x.kind:Int) == 1)=false:=by rw[zrf];omega
  have n3:((x.kind:Int) == 2)=true:=by rw[beq_iff_eq];omega
  have hs2:((w.alloc (.cells #[.int .i64 (x.ver:Int),.int .i64 (x.kind:Int),.string (bstr x.pl)] 75)).alloc (.cells zsv 26)).heap.size=w.heap.size+1+1:=by simp
  have hbD:=hb0.alloc hb0.size (.cells zdv 118)
  have bx1:=bx0.alloc (.cells zdv 118)
  have bz1:=bz0.alloc (.cells zdv 118)
  have bf1:=bf0.alloc (.cells zdv 118)
  have bd1:=wkx hs2 118 zdv
  have bb1:=hbb.bl hbD
  have x0_:=bx1.cell 0
  have x1_:=bx1.cell 1
  have x2_:=bx1.cell 2
  have f1_:=bf1.cell 1
  have y0_:=bx0.cell 0
  have y1_:=bx0.cell 1
  have y2_:=bx0.cell 2
  have z1_:=bf0.cell 1
  have HTt:=zrj HTb
  have HD:=zrj (wzl (bstr x.pl) (((w.alloc (.cells #[.int .i64 (x.ver:Int),.int .i64 (x.kind:Int),.string (bstr x.pl)] 75)).alloc (.cells zsv 26)).alloc (.cells zdv 118)) (by rw[uqz];omega) (HTb _ (hbD.mono hB)))
  have HFo:=zrj (show folFr x0.st x=(if(decDR x.pl).2≠0 then(none,(decDR x.pl).2) else(if ujb t (decDR x.pl).1=0 then some (ujg t (decDR x.pl).1) else none,ujb t (decDR x.pl).1)) by unfold folFr;rw[if_neg (by omega),if_neg (by omega),if_pos h2,hst])
  have HDK:=zrj (fun h:(decDR x.pl).2=0=>delOk_f (wyr (d:=(decDR x.pl).1) (by rw[decDR_ok h])).2.1)
  rw[show(bstr x.pl).data.toList=x.pl from uqu _] at HD
  have hRl:=M.u b hRb.1
  have HR1:=zrj (fun hn a ha=>M.u _ (in1 hn a ha).1:InR (· < w.heap.size) t.jobs.length m1)
  have HR2:=zrj (fun hn a ha=>M.u _ (in2 hn a ha).1:InR (· < w.heap.size) t.nodes.length m2)
  have HR3:=zrj (fun hn a ha=>M.u _ (in3 hn a ha).1:InR (· < w.heap.size) t.leases.length m3)
  have HMT:=zrj hmt
  clear h3 h2 hok HTb M hst hs2 bx0 bz0 bf0 hbb hb0 hmt in1 in2 in3 hRb
  go_enter func26,ntmps26
  go_upto_region 10 with fail
  generalize((w.alloc _).alloc _).alloc _=W0 at *
  go_wp2_with fail
  refine HD.out.mono ?_
  rintro e w1 ⟨d,er0,r1,r2,r3,r4,r5,r6,e1,e2,e3,e4,e5,e6,rfl,hD,hb1,hd⟩
  rw[hd] at HFo HDK
  have hzl:=bd1.lt
  have bz2:=bz1.bl hb1
  have bf2':=bf1.bl hb1
  have bb2:=bb1.bl hb1
  have bd2:=bd1.bl hb1
  have hbW:=bthen hbD hb1
  clear hd HD bz1 bf1 bx1 x0_ x1_ x2_ f1_ y0_ y1_ y2_ z1_ bb1 bd1
  have hfl0:f<w.heap.size:=HM.out.b.lt
  have bd3:=bd2.setRow (dv d r1 r2 r3 r4 r5 r6 e1 e2 e3 e4 e5 e6)
  have bf3:=Blk.far_row bf2' (show f≠w.heap.size+1+1 by omega) (dv d r1 r2 r3 r4 r5 r6 e1 e2 e3 e4 e5 e6)
  have bb3:=Blk.far_row bb2 (show b≠w.heap.size+1+1 by omega) (dv d r1 r2 r3 r4 r5 r6 e1 e2 e3 e4 e5 e6)
  have bz3:=Blk.far_row bz2 (show w.heap.size+1≠w.heap.size+1+1 by omega) (dv d r1 r2 r3 r4 r5 r6 e1 e2 e3 e4 e5 e6)
  have hD3:=hD.rowS hzl (dv d r1 r2 r3 r4 r5 r6 e1 e2 e3 e4 e5 e6)
  have hbR:=uqh hbW (show w.heap.size<=w.heap.size+1+1 by omega) (dv d r1 r2 r3 r4 r5 r6 e1 e2 e3 e4 e5 e6)
  go_upto_region 11 with(first | (refine uqc rfl _ _ _ rfl (w.heap.size+1+1) rfl _ _ (dv d r1 r2 r3 r4 r5 r6 e1 e2 e3 e4 e5 e6) bd2 rfl uqv rfl (ukj _ _ _ _ _ _ _ _ _ _ _ _ _ _ _ _ _ _ _ _) ?_))
  clear bz2 bf2' bb2 bd2 hbW hD hb1 hbD
  generalize w1.setRow _ _=w2 at *
  by_cases h0:er0=0
  rotate_left
  · have z0:((er0:Int) == 0)=false:=by rw[zrf];omega
    have HF:folFr x0.st x=(none,er0):=HFo.out.trans (by rw[if_pos h0])
    have HFo2:=zrj HF
    have f1:=bf3.cell 1
    have ff:=bf3.frozen 1
    have bA:=bf3.set_ 1 (.pointer none)
    have TA:=(HTch.of_below (O:=fun k=>k=f) hbR).trans (HTch.cellAt w2 f 1 (.pointer none) (O:=fun k=>k=f) rfl) (fun _ _ h=>h)
    have HQ:=zrj (HM.out.wrote (st:=none) TA bA rfl)
    clear HFo HF h0 bA TA bf3 bb3 bz3 bd3 hD3 HDK hbR
    go_wp2_with fail
    go_ret
    rw[HFo2.out]
    exact⟨rfl,HQ.out⟩
  subst h0
  have z0:(((0:Nat):Int) == 0)=true:=rfl
  have HFo:=zrj (HFo.out.trans (if_neg (by simp)))
  have hdk:=HDK.out rfl
  clear HDK
  go_upto_region 12 with fail
  have hbd:=(zri w2.heap.size w2).drew
  have hbR3:=hbR.drew
  have bf4:=bf3.drew
  have bb4:=bb3.drew
  have bz4:=bz3.drew
  have bd4:=bd3.drew
  have hD4:=hD3.below hbd
  refine wp_region_held_drew (S:=fun W=>Blk W f 71 #[zse fd,zse b]/\Blk W b 26 (stv t m1 m2 m3 k1 k2 k3)/\Blk W (w.heap.size+1+1) 118 (dv d r1 r2 r3 r4 r5 r6 e1 e2 e3 e4 e5 e6)) (by kernel_rfl) ⟨bf4,bb4,bd4⟩ (fun hHeld=>?_)
  generalize w2.drew=W3 at *
  clear bf3 bb3 bz3 bd3 hD3 hbR hbd
  refine tq 0 ?_
  refine tq 1 ?_
  refine tq 2 ?_
  refine tq 3 ?_ (hv:=by intro w5 hw5;have q1:=hw5.1.cell 1;go_simp;(try with_reducible rfl))
  refine tq 4 ?_
  refine tq 5 ?_ (hv:=by intro w5 hw5;have q0:=hw5.2.1.cell 0;have q1:=hw5.2.1.cell 1;have q2:=hw5.2.1.cell 2;have q3:=hw5.2.1.cell 3;go_simp;(try with_reducible rfl))
  refine tq 6 ?_ (hv:=by intro w5 hw5;have q0:=hw5.2.2.cell 0;have q1:=hw5.2.2.cell 1;have q2:=hw5.2.2.cell 2;have q3:=hw5.2.2.cell 3;have q4:=hw5.2.2.cell 4;have q5:=hw5.2.2.cell 5;have q6:=hw5.2.2.cell 6;have q7:=hw5.2.2.cell 7;go_simp;(try with_reducible rfl))
  refine tr 7 rfl (fun K hK=>?_)
  go_simp
  have hm3:StM W3 W3.heap.size m1 m2 m3 t:=HMT.out.tchN (HTch.of_below (O:=fun _=>False) hbR3) (fun _ _ _ h=>h) (fun _ _ _ h=>h) (fun _ _ _ h=>h)
  refine(xjw t d m1 m2 m3 k1 k2 k3 r1 r2 r3 r4 r5 r6 e1 e2 e3 e4 e5 e6 W3 hm3 hD4.m Ft.out.sz hdk (HTt.out _ (hbR3.mono hB))).mono ?_
  rintro e w4 ⟨p1,p2,p3,c1,c2,c3,rfl,hm,hb4,⟨a1,a2,a3⟩⟩
  have bf5:=bf4.bl hb4
  have bb5:=bb4.bl hb4
  have bz5:=bz4.bl hb4
  have bd5:=bd4.bl hb4
  have hsz:=hbR3.size
  have hb5:=bthen hbR3 hb4
  have hz3:=bz4.lt
  refine hK.out _ _ ⟨bf5,bb5,bd5⟩ (fun hHeld=>?_)
  clear hK K bf4 bb4 bz4 bd4 hD4 hm3 hbR3 hb4 hdk
  (try simp only[Act.put,ma,mb,mc,md,me,mf])
  generalize ujg t d=s at *
  generalize ujb t d=er at *
  refine tq 8 ?_
  refine tq 9 ?_
  refine tq 10 ?_
  have bs2:=bz5.setRow (stv s p1 p2 p3 c1 c2 c3)
  have bf2:=Blk.far_row bf5 (show f≠w.heap.size+1 by omega) (stv s p1 p2 p3 c1 c2 c3)
  have bb6:=Blk.far_row bb5 (show b≠w.heap.size+1 by omega) (stv s p1 p2 p3 c1 c2 c3)
  have bd6:=Blk.far_row bd5 (show w.heap.size+1+1≠w.heap.size+1 by omega) (stv s p1 p2 p3 c1 c2 c3)
  have T12:HTch (fun k=>k=w.heap.size+1) w4 (w4.setRow (w.heap.size+1) (stv s p1 p2 p3 c1 c2 c3)):=HTch.rowAt w4 _ _ rfl
  have T2:HTch (fun k=>k=f) w (w4.setRow (w.heap.size+1) (stv s p1 p2 p3 c1 c2 c3)):=(HTch.of_below hb5).trans T12 (fun k hk h=>by subst h;omega)
  have hm2:=hm.tchN T12 (fun _ a ha (e:a.block=_)=>by have:=a1 a ha;omega) (fun _ a ha (e:a.block=_)=>by have:=a2 a ha;omega) (fun _ a ha (e:a.block=_)=>by have:=a3 a ha;omega)
  have a1:∀a,p1=some a->w.heap.size<=a.block:=fun a ha=>zrc hsz (a1 a ha)
  have a2:∀a,p2=some a->w.heap.size<=a.block:=fun a ha=>zrc hsz (a2 a ha)
  have a3:∀a,p3=some a->w.heap.size<=a.block:=fun a ha=>zrc hsz (a3 a ha)
  refine tr 11 rfl (fun K hK=>?_)
  refine uxi rfl _ _ _ rfl (w.heap.size+1) rfl _ _ (stv s p1 p2 p3 c1 c2 c3) bz5 rfl uqg rfl (ux8 _ _ _ _ _ _ _ _ _ _) ?_
  refine hK.out _ _ ⟨bf2,bb6,bd6⟩ (fun hHeld=>?_)
  clear hK K bf5 bb5 bz5 bd5 T12 hm hb5 bb6 bd6
  (try simp only[Act.put,ma,mb,mc,md,me,mf])
  generalize w4.setRow _ _=W2 at *
  refine tq 12 ?_
  refine wpAnyH_done (by kernel_rfl) ?_ _
  clear hHeld
  go_upto_region 13 with fail
  have f1:=bf2.cell 1
  have ff:=bf2.frozen 1
  have bA:=bf2.set_ 1 (.pointer none)
  have TA:=T2.trans (HTch.cellAt W2 f 1 (.pointer none) (O:=fun k=>k=f) rfl) (fun _ _ h=>h)
  have hfl:f<w.heap.size:=HM.out.b.lt
  by_cases her:er=0
  · have e0:((er:Int) == 0)=true:=by rw[her];rfl
    have cA:(W2.setCell ⟨f,1,none⟩ (.pointer none)).cell? ⟨f,1,none⟩=some (.pointer none):=bA.cell 1
    have fA:=bA.frozen 1
    have bB:=bA.set_ 1 (zse (w.heap.size+1))
    have T24:HTch (fun k=>k=f) W2 ((W2.setCell ⟨f,1,none⟩ (.pointer none)).setCell ⟨f,1,none⟩ (zse (w.heap.size+1))):=(HTch.cellAt W2 f 1 (.pointer none) (O:=fun k=>k=f) rfl).trans (HTch.cellAt _ f 1 _ (O:=fun k=>k=f) rfl) (fun _ _ h=>h)
    have TB:=T2.trans T24 (fun _ _ h=>h)
    have bS:=T24.blk bs2 (show ¬(w.heap.size+1=f) by omega)
    have mS:=hm2.tchN T24 (fun _ a ha (e:a.block=f)=>by have:=a1 a ha;omega) (fun _ a ha (e:a.block=f)=>by have:=a2 a ha;omega) (fun _ a ha (e:a.block=f)=>by have:=a3 a ha;omega)
    obtain⟨u1,u2,u3⟩:=mS.inR
    have HQ:=zrj (HM.out.wrote (st:=some s) TB bB ⟨w.heap.size+1,p1,p2,p3,c1,c2,c3,rfl,bS,⟨Nat.le_succ _,bS.lt⟩,mS,fun hn a ha=>⟨a1 a ha,u1 hn a ha⟩,fun hn a ha=>⟨a2 a ha,u2 hn a ha⟩,fun hn a ha=>⟨a3 a ha,u3 hn a ha⟩⟩)
    have HF:folFr x0.st x=(some s,0):=HFo.out.trans (by rw[her];rfl)
    have HFo2:=zrj HF
    clear HFo HF bB T24 TB bS mS u1 u2 u3 bA TA T2 bf2 bs2 hm2
    subst her
    go_wp2_with fail
    go_ret
    rw[HFo2.out]
    exact⟨rfl,HQ.out⟩
  · have e0:((er:Int) == 0)=false:=by rw[zrf];omega
    have HQ:=zrj (HM.out.wrote (st:=none) TA bA rfl)
    have HF:folFr x0.st x=(none,er):=HFo.out.trans (by rw[if_neg her])
    have HFo2:=zrj HF
    clear HFo HF bA TA T2 bf2 bs2 hm2
    go_wp2_with fail
    go_ret
    rw[HFo2.out]
    exact⟨rfl,HQ.out⟩
theorem wz6 (f fd:Nat) (R:Nat->Prop) (x0:FolD) (v:Value) (x:Fr) (w:World) (B:Nat) (M:FolM w f fd R x0 v) (hok:FolOk x0.st) (hpl:x.pl.length<=6000) (HTb:∀W,Below B w W->Tabs W) (hB:B<=w.heap.size) :
    Calls prog 26 #[zse f,.agg #[.int .i64 (x.ver:Int),.int .i64 (x.kind:Int),.string (bstr x.pl)]] w fun e w'=>e=.returned (.int .i64 ((folFr x0.st x).2:Int))/\FolQ w f fd R ⟨x0.L,(folFr x0.st x).1⟩ w':=by
  by_cases h3:x.ver=3
  rotate_left
  · exact uyu f fd R x0 v x w B M hok hpl HTb hB (.inl h3)
  by_cases h1:x.kind=1
  · exact vw7 f fd R x0 v x w B M hok hpl HTb hB h3 h1
  by_cases h2:x.kind=2
  rotate_left
  · exact uyu f fd R x0 v x w B M hok hpl HTb hB (.inr (.inl ⟨h1,h2⟩))
  cases hst:x0.st with
  | none=>rw[<- hst];exact uyu f fd R x0 v x w B M hok hpl HTb hB (.inr (.inr ⟨h3,h2,hst⟩))
  | some t=>rw[<- hst];exact vw6 f fd R x0 v x w B M hok hpl HTb hB t h3 h2 hst
theorem xxw {s:Option St} (hs:FolOk s) (fs:List Fr) (k:Nat):FolOk (uxl s (fs.take k)).1:=wz5 hs _
theorem wz7 {s:Option St} {fs:List Fr} {k:Nat} {x:Fr} (hx:fs[k]?=some x):uxl s (fs.take (k+1))=folGo (uxl s (fs.take k)) x:=by rw[List.take_add_one,hx,Option.toList_some,vvt]
theorem FolQ.trans {w w1 w2:World} {f fd:Nat} {R R1:Nat->Prop} {x x1:FolD} (hT:HTch (FolT f fd) w w1) (hR:∀k,R1 k->R k\/w.heap.size<=k) (h:FolQ w1 f fd R1 x w2):FolQ w f fd R x w2:=by
 obtain⟨v',R',M,T,hR'⟩:=h
 exact⟨v',R',M,hT.trans T (fun k _ hk=>hk),fun k hk=>(hR' k hk).elim (hR k) (fun h=>.inr (zrc hT.size h))⟩
theorem vvu (f fd:Nat) (R:Nat->Prop) (x0:FolD) (v:Value) (s:Zba) (w:World) (B:Nat) (M:FolM w f fd R x0 v) (hok:FolOk x0.st) (hs:s.size<=1152921504606846976) (hc:(newF x0.L s.data.toList).length<=4398046511104) (HTb:∀W,Below B w W->Tabs W) (hB:B<=w.heap.size) (hBf:B<=f/\B<=fd) :
  Calls prog 11 #[zse f,.string s] w fun e w'=>e=.returned (.tuple #[.int .i64 ((newF x0.L s.data.toList).length:Int),.int .i64 (x0.code s.data.toList:Int)])/\FolQ w f fd R (x0.push s.data.toList) w':=by
 have HP:=zrj (wxg fd x0.L s w M.e hs (fun outs ho=>by rw[uy1 ho];exact hc))
 have HN:=zrj (fun outs (ho:(feedF x0.L).out++outs=(feedF (x0.L++s.data.toList)).out)=>uy1 ho)
 have HG:=zrj (wjv x0.L s.data.toList)
 have HM:=zrj M
 have HOK:=zrj (xxw hok (newF x0.L s.data.toList))
 have HTt:=zrj HTb
 have c0:=M.b.cell 0
 have hcd:x0.code s.data.toList=if(uxl x0.st (newF x0.L s.data.toList)).2=0 then errF (x0.L++s.data.toList) else(uxl x0.st (newF x0.L s.data.toList)).2:=rfl
 have hps:x0.push s.data.toList=⟨x0.L++s.data.toList,(uxl x0.st (newF x0.L s.data.toList)).1⟩:=rfl
 generalize newF x0.L s.data.toList=N at *
 generalize hL:x0.L++s.data.toList=L' at *
 generalize hEr:errF L'=er at *
 have HL:=zrj hL
 have HEr:=zrj hEr
 generalize x0.code s.data.toList=cd at *
 generalize x0.push s.data.toList=y at *
 have HCD:=zrj hcd
 have HPS:=zrj hps
 clear hL hEr hcd hps
 have hne:=M.ne
 clear M HTb hs hok
 go_enter func11,ntmps11
 go_wp2_with fail
 refine HP.out.mono ?_
 rintro e w1 ⟨pa,ca,outs,rfl,hel,hge,hou,hfe,hasd⟩
 rw[HL.out] at hou hfe ⊢
 rw[HEr.out]
 obtain rfl:outs=N:=HN.out outs hou
 have T1:HTch (fun k=>k=fd) w w1:=HTch.of_grown hasd (fun k hk=>by injection hk with hk;exact hk.symm)
 have M1:FolM w1 f fd R ⟨L',x0.st⟩ v:=⟨T1.blk HM.out.b (fun e=>hne e),HM.out.s.tch T1 (fun k hk e=>hk.2 (.inr e)),hfe,HM.out.r,fun k hk=>Nat.lt_of_lt_of_le (HM.out.u k hk) T1.size⟩
 have hfl:f<w.heap.size:=HM.out.u f HM.out.r.1
 have hdl:fd<w.heap.size:=HM.out.u fd HM.out.r.2
 have HNO:=zrj (show ∀a,pa=some a->¬FolT f fd a.block from fun a ha h=>by have:=hge a ha;rcases h with h | h <;> omega)
 have HEL:=zrj hel
 have TT1:=zrj (T1.mono (O':=FolT f fd) fun k hk=>.inr hk)
 have hBT:∀k,FolT f fd k->B<=k:=fun k hk=>by rcases hk with rfl | rfl;exact hBf.1;exact hBf.2
 have HBT:=zrj hBT
 clear HP HN hel hge hou hfe hasd T1 c0 hBT HL HEr
 go_wp2_with fail
 go_loopw [8,23] (fun fi i wr=>∃(k:Nat) (v':Value) (R':Nat->Prop),k<=outs.length/\i=.int .i64 k/\fi=.int .i64 ((uxl x0.st (outs.take k)).2:Int)/\FolM wr f fd R' ⟨L',(uxl x0.st (outs.take k)).1⟩ v'/\HTch (FolT f fd) w1 wr/\∀k,R' k->R k\/w.heap.size<=k) (fun _ i _=>outs.length-(intOf i).toNat)
 case atStart=>exact⟨0,v,R,Nat.zero_le _,rfl,rfl,M1,HTch.refl _ _,fun k hk=>.inl hk⟩
 case round =>
  obtain⟨k,v',R',hk,rfl,rfl,Mk,Tk,hR'⟩:=hrel
  clear M1
  by_cases hlt:k<outs.length
  ·have hx:outs[k]?=some outs[k]:=zrd hlt
   have hgx:=HG.out outs[k] (List.getElem_mem hlt)
   have hnx:=wz7 (s:=x0.st) hx
   have hok:=HOK.out k
   generalize outs[k]=x at *
   obtain⟨a,rfl,hab,_,hat⟩:=(HEL.out.tch (zra _) Tk HNO.out).at_ (k:=k) (r:=rowFr x) (by rw[zrg,hx];rfl)
   generalize uxl x0.st (outs.take k)=fa at *
   obtain⟨st,z⟩:=fa
   simp only at Mk hok
   have hb1:=zsa wr (.cells #[.int .i64 (x.ver:Int),.int .i64 (x.kind:Int),.string (bstr x.pl)] 75)
   have bx:=Blk.new wr 75 #[.int .i64 (x.ver:Int),.int .i64 (x.kind:Int),.string (bstr x.pl)]
   have HMk:=zrj (Mk.below hb1)
   have Tk1:=Tk.trans (HTch.of_below (O:=FolT f fd) hb1) (fun _ _ h=>h)
   have hBk:Below B w (wr.alloc (.cells #[.int .i64 (x.ver:Int),.int .i64 (x.kind:Int),.string (bstr x.pl)] 75)):=(TT1.out.trans Tk1 (fun _ _ h=>h)).below HBT.out hB
   have hsz:=hBk.size
   have HF:=zrj (wz6 f fd R' ⟨L',st⟩ v' x _ B HMk.out hok hgx.2.2 (fun W hW=>HTt.out W (hBk.trans hW)) (zrc hB hsz))
   have HNX:=zrj hnx
   have HTk:=zrj Tk1
   have HR':=zrj hR'
   have hkw:=zrj (zrc TT1.out.size Tk1.size)
   clear Mk Tk hx hgx hnx hok hab hb1 Tk1 hBk hsz hR' HMk
   go_upto_region 6 with(first | (refine uqe rfl _ _ rfl (a.add (k*3)) rfl [Value.int .i64 (x.ver:Int),Value.int .i64 (x.kind:Int),Value.string (bstr x.pl)] _ hat underlying75 rfl uqx ?_) | (refine uqf rfl _ _ _ rfl rfl 75 _ #[.int .i64 (x.ver:Int),.int .i64 (x.kind:Int),.string (bstr x.pl)] rfl uqx rfl (vql _ _ _) ?_))
   generalize wr.alloc _=W1 at *
   generalize wr.heap.size=gx at *
   clear hat
   generalize hfr:folFr st x=fr at *
   obtain⟨st2,c⟩:=fr
   have HGo:=zrj (HNX.out.trans (show folGo (st,z) x=(st2,if z=0 then c else z) by unfold folGo;simp only[hfr]))
   clear hfr HNX
   by_cases hc0:c=0
   ·have e1:((c:Int) != 0)=false:=by rw[hc0];rfl
    have hz:(if z=0 then c else z)=z:=by rw[hc0];split <;> omega
    rw[hz] at HGo
    clear hc0 hz
    go_wp2_with(first | (refine uqw (by rfl) _ _ rfl gx rfl _ _ bx _ underlying75 rfl uqx ?_))
    refine HF.out.mono ?_
    rintro e w3 ⟨rfl,v3,R3,M3,T3,hR3⟩
    have HM3:=zrj M3
    have HT3:=zrj (HTk.out.trans T3 (fun _ _ h=>h))
    have HR3:=zrj (fun k hk=>(hR3 k hk).elim (HR'.out k) (fun h=>.inr (zrc hkw.out h)):∀k,R3 k->R k\/w.heap.size<=k)
    clear M3 T3 hR3 HF bx
    go_wp2_with fail
    go_roundw
    case rel=>exact⟨k+1,v3,R3,by omega,by go_num,by rw[HGo.out],by rw[HGo.out];exact HM3.out,HT3.out,HR3.out⟩
    case measure=>simp[intOf];omega
   ·have e1:((c:Int) != 0)=true:=by rw[bne_iff_ne];omega
    by_cases hz0:z=0
    ·have e2:((z:Int) == 0)=true:=by rw[hz0];rfl
     rw[if_pos hz0] at HGo
     clear hc0 hz0
     go_wp2_with(first | (refine uqw (by rfl) _ _ rfl gx rfl _ _ bx _ underlying75 rfl uqx ?_))
     refine HF.out.mono ?_
     rintro e w3 ⟨rfl,v3,R3,M3,T3,hR3⟩
     have HM3:=zrj M3
     have HT3:=zrj (HTk.out.trans T3 (fun _ _ h=>h))
     have HR3:=zrj (fun k hk=>(hR3 k hk).elim (HR'.out k) (fun h=>.inr (zrc hkw.out h)):∀k,R3 k->R k\/w.heap.size<=k)
     clear M3 T3 hR3 HF bx
     go_wp2_with fail
     go_roundw
     case rel=>exact⟨k+1,v3,R3,by omega,by go_num,by rw[HGo.out],by rw[HGo.out];exact HM3.out,HT3.out,HR3.out⟩
     case measure=>simp[intOf];omega
    ·have e2:((z:Int) == 0)=false:=by rw[zrf];omega
     rw[if_neg hz0] at HGo
     clear hc0 hz0
     go_wp2_with(first | (refine uqw (by rfl) _ _ rfl gx rfl _ _ bx _ underlying75 rfl uqx ?_))
     refine HF.out.mono ?_
     rintro e w3 ⟨rfl,v3,R3,M3,T3,hR3⟩
     have HM3:=zrj M3
     have HT3:=zrj (HTk.out.trans T3 (fun _ _ h=>h))
     have HR3:=zrj (fun k hk=>(hR3 k hk).elim (HR'.out k) (fun h=>.inr (zrc hkw.out h)):∀k,R3 k->R k\/w.heap.size<=k)
     clear M3 T3 hR3 HF bx
     go_wp2_with fail
     go_roundw
     case rel=>exact⟨k+1,v3,R3,by omega,by go_num,by rw[HGo.out],by rw[HGo.out];exact HM3.out,HT3.out,HR3.out⟩
     case measure=>simp[intOf];omega
  ·obtain rfl:k=outs.length:=by omega
   rw[List.take_length] at Mk ⊢
   have HQ:=zrj (show FolQ w f fd R ⟨L',(uxl x0.st outs).1⟩ wr from⟨v',R',Mk,TT1.out.trans Tk (fun _ _ h=>h),hR'⟩)
   clear Mk Tk hR'
   obtain⟨⟨st,z⟩,hfa⟩:∃p,uxl x0.st outs=p:=⟨_,rfl⟩
   rw[hfa] at HQ HCD HPS ⊢
   clear hfa
   have HQ:=zrj (show FolQ w f fd R y wr by rw[HPS.out];exact HQ.out)
   by_cases hz0:z=0
   ·have e2:((z:Int) == 0)=true:=by rw[hz0];rfl
    have HE:=zrj (HCD.out.trans (if_pos hz0))
    clear hz0 HCD HPS
    go_wp2_with fail
    go_ret2
    exact⟨by rw[HE.out];rfl,HQ.out⟩
   ·have e2:((z:Int) == 0)=false:=by rw[zrf];omega
    have HE:=zrj (HCD.out.trans (if_neg hz0))
    clear hz0 HCD HPS
    go_wp2_with fail
    go_ret2
    exact⟨by rw[HE.out];rfl,HQ.out⟩
end Go.Proofs.YtknmnhleicakhaaGreatDoor
