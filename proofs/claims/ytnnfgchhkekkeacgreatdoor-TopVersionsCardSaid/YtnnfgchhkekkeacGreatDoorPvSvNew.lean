/- Lemmas.
-/
import Derived.Test.YtnnfgchhkekkeacGreatDoorPvSvA
set_option linter.all false
set_option maxHeartbeats 16000000
set_option maxRecDepth 100000
namespace Go.Proofs.YtnnfgchhkekkeacGreatDoor
open Go.Proofs.Tryz
open Go.RowKit
structure SvM (w:World) (g:Nat) (q1 q2 q3:Zoa) (d1 d2 d3:Nat) (v:Srv):Prop where
 b:Blk w g 138 (zsh v q1 q2 q3 d1 d2 d3)
 own:StOwn w 0 q1 q2 q3 d1 d2 d3 v.st
def SvI (w:World) (g:Nat) (v:Srv):Prop:=∃q1 q2 q3 d1 d2 d3,SvM w g q1 q2 q3 d1 d2 d3 v
section
variable {w w':World} {g:Nat} {q1 q2 q3:Zoa} {d1 d2 d3:Nat} {v:Srv}
theorem SvM.below (h:SvM w g q1 q2 q3 d1 d2 d3 v) (hb:Below w.heap.size w w'):SvM w' g q1 q2 q3 d1 d2 d3 v:=⟨h.b.below hb h.b.lt,h.own.below hb⟩
theorem SvI.below (h:SvI w g v) (hb:Below w.heap.size w w'):SvI w' g v:=by
 obtain⟨q1,q2,q3,d1,d2,d3,h⟩:=h
 exact⟨q1,q2,q3,d1,d2,d3,h.below hb⟩
theorem SvI.lt (h:SvI w g v):g<w.heap.size:=by
 obtain⟨q1,q2,q3,d1,d2,d3,h⟩:=h
 exact h.b.lt
theorem SvM.at (h:SvM w g q1 q2 q3 d1 d2 d3 v):At w ⟨g,0,none⟩ [Value.int .i64 v.st.rev,Value.slice q1 v.st.jobs.length d1,Value.slice q2 v.st.nodes.length d2,Value.slice q3 v.st.leases.length d3]:=fun j u hu=>by
 rcases j with _ | _ | _ | _ | j
 ·injection hu with hu;subst hu;exact h.b.cell 0
 ·injection hu with hu;subst hu;exact h.b.cell 1
 ·injection hu with hu;subst hu;exact h.b.cell 2
 ·injection hu with hu;subst hu;exact h.b.cell 3
 ·cases hu
theorem SvM.m (h:SvM w g q1 q2 q3 d1 d2 d3 v):StM w w.heap.size q1 q2 q3 v.st:=h.own.m
theorem SvI.other (h:SvI w g v) {k:Nat} (hg:w.grownBy w' (some k)) {cs:Array Value} (hk:Blk w k 138 cs) (hne:g≠k):SvI w' g v:=by
 obtain⟨q1,q2,q3,d1,d2,d3,h⟩:=h
 exact⟨q1,q2,q3,d1,d2,d3,GrB.blk hg h.b hne,h.own.other hg hk (by decide) (by decide) (by decide)⟩
theorem SvI.blk (h:SvI w g v):∃cs,Blk w g 138 cs:=by
 obtain⟨q1,q2,q3,d1,d2,d3,h⟩:=h
 exact⟨_,h.b⟩
theorem uyz {k:Nat} {t:TypeId} {cs:Array Value} (h:SvI w g v) (hg:w.grownBy w' (some g)) (hb:Blk w k t cs) (hne:t≠138):Blk w' k t cs:=by
 obtain⟨c2,h2⟩:=h.blk
 exact GrB.blk hg hb (hb.ne_ h2 hne)
end
theorem vj7 (W:World):(zeroValue 138).run prog W=.ok (.agg #[.int .i64 0,.slice none 0 0,.slice none 0 0,.slice none 0 0,.int .i64 0]) W:=by kernel_rfl
theorem svNew_ok (s:St) (p1 p2 p3:Zoa) (c1 c2 c3:Nat) (w:World) (hm:StM w w.heap.size p1 p2 p3 s) (hz:StSz s) (hT:Tabs w) (h:uqr s=0) :
  Calls prog 46 #[.agg (stv s p1 p2 p3 c1 c2 c3)] w fun e w'=>∃g,e=.returned (.tuple #[zse g,.int .i64 0])/\w.heap.size<=g/\SvI w' g ⟨s,0⟩/\Below w.heap.size w w':=by
 have hb0:=zsa w (.cells (stv s p1 p2 p3 c1 c2 c3) 26)
 have bx0:=Blk.new w 26 (stv s p1 p2 p3 c1 c2 c3)
 have HC:=zrj (fun(W:World) (hW:Below w.heap.size w W)=>uzv s p1 p2 p3 c1 c2 c3 W ((hm.below hW).more hW.size) hz (hT.below hW))
 have F:=(uxk s).1 h
 have HO:=zrj (fun(W:World) (hW:Below w.heap.size w W)=>uk8 s p1 p2 p3 c1 c2 c3 W ((hm.below hW).more hW.size) (by have:=F.nj;omega) (by have:=F.nn;omega) (by have:=F.nl;omega))
 rw[h] at HC
 have hzs:=vj7
 have z0:(((0:Nat):Int) != 0)=false:=rfl
 clear h hm hz hT F
 go_enter func46,ntmps46
 go_wp2_with(first | (refine uqa rfl _ _ rfl w.heap.size rfl _ _ bx0 _ underlying26 rfl uqg ?_))
 generalize w.alloc _=w0 at *
 refine(HC.out w0 hb0).mono ?_
 rintro e w1 ⟨rfl,hb1⟩
 have hB1:=bthen hb0 hb1
 have bx1:=bx0.bl hb1
 clear bx0 hb0 hb1
 go_wp2_with(first | (refine uqa rfl _ _ rfl w.heap.size rfl _ _ bx1 _ underlying26 rfl uqg ?_))
 refine(HO.out w1 hB1).mono ?_
 rintro e w2 ⟨q1,q2,q3,d1,d2,d3,rfl,hO,hb2⟩
 have hB2:=bthen hB1 hb2
 have hb3:=zsa w2 (.cells #[.int .i64 s.rev,.slice q1 s.jobs.length d1,.slice q2 s.nodes.length d2,.slice q3 s.leases.length d3,.int .i64 0] 138)
 have HM:=zrj (show SvM (w2.alloc (.cells #[.int .i64 s.rev,.slice q1 s.jobs.length d1,.slice q2 s.nodes.length d2,.slice q3 s.leases.length d3,.int .i64 0] 138)) w2.heap.size q1 q2 q3 d1 d2 d3 ⟨s,0⟩ from⟨Blk.new w2 138 #[.int .i64 s.rev,.slice q1 s.jobs.length d1,.slice q2 s.nodes.length d2,.slice q3 s.leases.length d3,.int .i64 0],(hO.less (Nat.zero_le _)).below hb3⟩)
 have HB:=zrj (bthen hB2 hb3)
 have HL:=zrj hB2.size
 clear hO hB1 hb2 hB2 hb3 bx1
 go_wp2_with fail
 go_ret2
 exact⟨w2.heap.size,rfl,HL.out,⟨q1,q2,q3,d1,d2,d3,HM.out⟩,HB.out⟩
theorem vqe (g:Nat) (v:Srv) (w:World) (hM:SvI w g v) (F:Fine v.st) :
  Calls prog 53 #[zse g] w fun e w'=>wwy w v.st e w':=by
 obtain⟨q1,q2,q3,d1,d2,d3,hM⟩:=hM
 have hzs:=uq4
 have hb0:=zsa w (.cells zsv 26)
 have bz0:=Blk.new w 26 zsv
 have hM0:=hM.below hb0
 have hat:=hM0.at
 have HO:=zrj (uk8 v.st q1 q2 q3 d1 d2 d3 _ hM0.m (by have:=F.nj;omega) (by have:=F.nn;omega) (by have:=F.nl;omega))
 clear hM hM0 F
 go_enter func53,ntmps53
 go_wp2_with(first | (refine uqe rfl _ _ rfl ⟨g,0,none⟩ rfl [Value.int .i64 v.st.rev,Value.slice q1 v.st.jobs.length d1,Value.slice q2 v.st.nodes.length d2,Value.slice q3 v.st.leases.length d3] _ hat underlying26 rfl uqg ?_))
 generalize w.alloc _=w0 at *
 refine HO.out.mono ?_
 rintro e w1 ⟨r1,r2,r3,e1,e2,e3,rfl,hO,hb1⟩
 have hB1:=bthen hb0 hb1
 have bz1:=bz0.bl hb1
 have hS:=zrj ((hO.other (growR w1 w.heap.size (stv v.st r1 r2 r3 e1 e2 e3)) bz1 (by decide) (by decide) (by decide)).less hb0.size)
 have hB2:=zrj (uqf hB1 (zra _) (stv v.st r1 r2 r3 e1 e2 e3))
 clear hO hB1 hb1 bz0 hb0 hat HO
 go_wp2_with(first | (refine uqd rfl _ _ _ rfl w.heap.size rfl _ _ (stv v.st r1 r2 r3 e1 e2 e3) bz1 rfl uqg rfl (uzj _ _ _ _ _ _ _ _ _ _) ?_))
 refine bodyPost_ret (uqw rfl _ rfl (bz1.setRow (stv v.st r1 r2 r3 e1 e2 e3)) underlying26 rfl uqg) rfl ?_
 exact⟨r1,r2,r3,e1,e2,e3,rfl,hS.out,hB2.out⟩
end Go.Proofs.YtnnfgchhkekkeacGreatDoor
