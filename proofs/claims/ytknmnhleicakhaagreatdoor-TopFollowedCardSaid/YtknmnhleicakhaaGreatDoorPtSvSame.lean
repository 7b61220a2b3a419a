/- Lemmas.
-/
import Derived.Test.YtknmnhleicakhaaGreatDoorPtSvA
set_option linter.all false
set_option maxHeartbeats 16000000
set_option maxRecDepth 100000
namespace Go.Proofs.YtknmnhleicakhaaGreatDoor
open Go.Proofs.Tryz
open Go.RowKit
structure SvM (w:World) (g:Nat) (q1 q2 q3:Zoa) (d1 d2 d3:Nat) (v:Srv):Prop where
 b:Blk w g 94 (zsh v q1 q2 q3 d1 d2 d3)
 own:StOwn w 0 q1 q2 q3 d1 d2 d3 v.st
def SvI (w:World) (g:Nat) (v:Srv):Prop:=∃q1 q2 q3 d1 d2 d3,SvM w g q1 q2 q3 d1 d2 d3 v
section
variable {w w':World} {g:Nat} {q1 q2 q3:Zoa} {d1 d2 d3:Nat} {v:Srv}
theorem SvM.below (h:SvM w g q1 q2 q3 d1 d2 d3 v) (hb:Below w.heap.size w w'):SvM w' g q1 q2 q3 d1 d2 d3 v:=⟨h.b.below hb h.b.lt,h.own.below hb⟩
theorem SvI.below (h:SvI w g v) (hb:Below w.heap.size w w'):SvI w' g v:=by
 obtain⟨q1,q2,q3,d1,d2,d3,h⟩:=h
 exact⟨q1,q2,q3,d1,d2,d3,h.below hb⟩
theorem SvI.lt (h:SvI w g v):g<w.heap.size:=by
 obtain⟨q1,q2,q3,d1,d2,d3,h⟩:=h
 exact h.b.lt
theorem SvM.at (h:SvM w g q1 q2 q3 d1 d2 d3 v):At w ⟨g,0,none⟩ [Value.int .i64 v.st.rev,Value.slice q1 v.st.jobs.length d1,Value.slice q2 v.st.nodes.length d2,Value.slice q3 v.st.leases.length d3]:=fun j u hu=>by
 rcases j with _ | _ | _ | _ | j
 ·injection hu with hu;subst hu;exact h.b.cell 0
 ·injection hu with hu;subst hu;exact h.b.cell 1
 ·injection hu with hu;subst hu;exact h.b.cell 2
 ·injection hu with hu;subst hu;exact h.b.cell 3
 ·cases hu
theorem SvM.m (h:SvM w g q1 q2 q3 d1 d2 d3 v):StM w w.heap.size q1 q2 q3 v.st:=h.own.m
theorem SvI.other (h:SvI w g v) {k:Nat} (hg:w.grownBy w' (some k)) {cs:Array Value} (hk:Blk w k 94 cs) (hne:g≠k):SvI w' g v:=by
 obtain⟨q1,q2,q3,d1,d2,d3,h⟩:=h
 exact⟨q1,q2,q3,d1,d2,d3,GrB.blk hg h.b hne,h.own.other hg hk (by decide) (by decide) (by decide)⟩
theorem SvI.blk (h:SvI w g v):∃cs,Blk w g 94 cs:=by
 obtain⟨q1,q2,q3,d1,d2,d3,h⟩:=h
 exact⟨_,h.b⟩
theorem vx9 {k:Nat} {t:TypeId} {cs:Array Value} (h:SvI w g v) (hg:w.grownBy w' (some g)) (hb:Blk w k t cs) (hne:t≠94):Blk w' k t cs:=by
 obtain⟨c2,h2⟩:=h.blk
 exact GrB.blk hg hb (hb.ne_ h2 hne)
end
theorem vw4 (W:World):(zeroValue 94).run prog W=.ok (.agg #[.int .i64 0,.slice none 0 0,.slice none 0 0,.slice none 0 0,.int .i64 0]) W:=by kernel_rfl
theorem xyi (s:St) (p1 p2 p3:Zoa) (c1 c2 c3:Nat) (w:World) (hm:StM w w.heap.size p1 p2 p3 s) (hz:StSz s) (hT:Tabs w) (h:uqp s≠0) :
  Calls prog 17 #[.agg (stv s p1 p2 p3 c1 c2 c3)] w fun e w'=>e=.returned (.tuple #[.pointer none,.int .i64 ((uqp s:Nat):Int)])/\Below w.heap.size w w':=by
 have hb0:=zsa w (.cells (stv s p1 p2 p3 c1 c2 c3) 26)
 have bx0:=Blk.new w 26 (stv s p1 p2 p3 c1 c2 c3)
 have HC:=zrj (fun(W:World) (hW:Below w.heap.size w W)=>uxw s p1 p2 p3 c1 c2 c3 W ((hm.below hW).more hW.size) hz (hT.below hW))
 have hne:(((uqp s:Nat):Int) != 0)=true:=by rw[bne_iff_ne];omega
 generalize uqp s=n at *
 clear h hm hz hT
 go_enter func17,ntmps17
 go_wp2_with(first | (refine uqa rfl _ _ rfl w.heap.size rfl _ _ bx0 _ underlying26 rfl uqg ?_))
 generalize w.alloc _=w0 at *
 refine(HC.out w0 hb0).mono ?_
 rintro e w1 ⟨rfl,hb1⟩
 have hB1:=bthen hb0 hb1
 go_wp2_with fail
 go_ret2
 exact⟨rfl,hB1⟩
theorem svNew_ok (s:St) (p1 p2 p3:Zoa) (c1 c2 c3:Nat) (w:World) (hm:StM w w.heap.size p1 p2 p3 s) (hz:StSz s) (hT:Tabs w) (h:uqp s=0) :
  Calls prog 17 #[.agg (stv s p1 p2 p3 c1 c2 c3)] w fun e w'=>∃g,e=.returned (.tuple #[zse g,.int .i64 0])/\w.heap.size<=g/\SvI w' g ⟨s,0⟩/\Below w.heap.size w w':=by
 have hb0:=zsa w (.cells (stv s p1 p2 p3 c1 c2 c3) 26)
 have bx0:=Blk.new w 26 (stv s p1 p2 p3 c1 c2 c3)
 have HC:=zrj (fun(W:World) (hW:Below w.heap.size w W)=>uxw s p1 p2 p3 c1 c2 c3 W ((hm.below hW).more hW.size) hz (hT.below hW))
 have F:=(uxp s).1 h
 have HO:=zrj (fun(W:World) (hW:Below w.heap.size w W)=>uwn s p1 p2 p3 c1 c2 c3 W ((hm.below hW).more hW.size) (by have:=F.nj;omega) (by have:=F.nn;omega) (by have:=F.nl;omega))
 rw[h] at HC
 have hzs:=vw4
 have z0:(((0:Nat):Int) != 0)=false:=rfl
 clear h hm hz hT F
 go_enter func17,ntmps17
 go_wp2_with(first | (refine uqa rfl _ _ rfl w.heap.size rfl _ _ bx0 _ underlying26 rfl uqg ?_))
 generalize w.alloc _=w0 at *
 refine(HC.out w0 hb0).mono ?_
 rintro e w1 ⟨rfl,hb1⟩
 have hB1:=bthen hb0 hb1
 have bx1:=bx0.bl hb1
 clear bx0 hb0 hb1
 go_wp2_with(first | (refine uqa rfl _ _ rfl w.heap.size rfl _ _ bx1 _ underlying26 rfl uqg ?_))
 refine(HO.out w1 hB1).mono ?_
 rintro e w2 ⟨q1,q2,q3,d1,d2,d3,rfl,hO,hb2⟩
 have hB2:=bthen hB1 hb2
 have hb3:=zsa w2 (.cells #[.int .i64 s.rev,.slice q1 s.jobs.length d1,.slice q2 s.nodes.length d2,.slice q3 s.leases.length d3,.int .i64 0] 94)
 have HM:=zrj (show SvM (w2.alloc (.cells #[.int .i64 s.rev,.slice q1 s.jobs.length d1,.slice q2 s.nodes.length d2,.slice q3 s.leases.length d3,.int .i64 0] 94)) w2.heap.size q1 q2 q3 d1 d2 d3 ⟨s,0⟩ from⟨Blk.new w2 94 #[.int .i64 s.rev,.slice q1 s.jobs.length d1,.slice q2 s.nodes.length d2,.slice q3 s.leases.length d3,.int .i64 0],(hO.less (Nat.zero_le _)).below hb3⟩)
 have HB:=zrj (bthen hB2 hb3)
 have HL:=zrj hB2.size
 clear hO hB1 hb2 hB2 hb3 bx1
 go_wp2_with fail
 go_ret2
 exact⟨w2.heap.size,rfl,HL.out,⟨q1,q2,q3,d1,d2,d3,HM.out⟩,HB.out⟩
theorem vzj (g:Nat) (v:Srv) (w:World) (hM:SvI w g v) (F:Fine v.st) :
  Calls prog 31 #[zse g] w fun e w'=>xjp w v.st e w':=by
 obtain⟨q1,q2,q3,d1,d2,d3,hM⟩:=hM
 have hzs:=uq3
 have hb0:=zsa w (.cells zsv 26)
 have bz0:=Blk.new w 26 zsv
 have hM0:=hM.below hb0
 have hat:=hM0.at
 have HO:=zrj (uwn v.st q1 q2 q3 d1 d2 d3 _ hM0.m (by have:=F.nj;omega) (by have:=F.nn;omega) (by have:=F.nl;omega))
 clear hM hM0 F
 go_enter func31,ntmps31
 go_wp2_with(first | (refine uqe rfl _ _ rfl ⟨g,0,none⟩ rfl [Value.int .i64 v.st.rev,Value.slice q1 v.st.jobs.length d1,Value.slice q2 v.st.nodes.length d2,Value.slice q3 v.st.leases.length d3] _ hat underlying26 rfl uqg ?_))
 generalize w.alloc _=w0 at *
 refine HO.out.mono ?_
 rintro e w1 ⟨r1,r2,r3,e1,e2,e3,rfl,hO,hb1⟩
 have hB1:=bthen hb0 hb1
 have bz1:=bz0.bl hb1
 have hS:=zrj ((hO.other (growR w1 w.heap.size (stv v.st r1 r2 r3 e1 e2 e3)) bz1 (by decide) (by decide) (by decide)).less hb0.size)
 have hB2:=zrj (uqh hB1 (zra _) (stv v.st r1 r2 r3 e1 e2 e3))
 clear hO hB1 hb1 bz0 hb0 hat HO
 go_wp2_with(first | (refine uqc rfl _ _ _ rfl w.heap.size rfl _ _ (stv v.st r1 r2 r3 e1 e2 e3) bz1 rfl uqg rfl (ux8 _ _ _ _ _ _ _ _ _ _) ?_))
 refine bodyPost_ret (uq8 rfl _ rfl (bz1.setRow (stv v.st r1 r2 r3 e1 e2 e3)) underlying26 rfl uqg) rfl ?_
 exact⟨r1,r2,r3,e1,e2,e3,rfl,hS.out,hB2.out⟩
theorem oSeqJ1 {p:Prop} (h:p:=by first | omega | (simp only[Z7] at *;omega)):p:=h
theorem sSeqJ1 {p:Prop} (h:p:=by
 by_cases hlen:l.length=m.length
 ·have hb:((l.length:Int) != (m.length:Int))=false:=by rw[hlen];simp
  have h1:l.length<=m.length:=by exact oSeqJ1
  have h2:m.length<=l.length:=by exact oSeqJ1
  have HLEN:=zrj hlen
  clear hlen
  go_enter Z1,Z2
  go_wp2_with fail
  go_loopw [13] (fun i wr=>∃k:Nat,k<=l.length/\i=.int .i64 k/\Below w.heap.size w wr/\Hid (l.take k=m.take k)) (fun i _=>l.length-(intOf i).toNat)
  case atStart=>exact⟨0,Nat.zero_le _,rfl,zri _ _,(show _=_ from rfl)⟩
  case round =>
   obtain⟨k,hk,rfl,hbr,HT⟩:=hrel
   by_cases hlt:k<l.length
   ·have hkm:k<m.length:=by exact oSeqJ1
    have hx:l[k]?=some l[k]:=zrd hlt
    have hy:m[k]?=some m[k]:=zrd hkm
    generalize l[k]=x at *
    generalize m[k]=y at *
    obtain⟨a,rfl,hab,_,hat⟩:=(hp.below hbr).at_ (k:=k) (r:=Z3 x) (by rw[zrg,hx];rfl)
    obtain⟨b,rfl,hbb,_,hbt⟩:=(hq.below hbr).at_ (k:=k) (r:=Z3 y) (by rw[zrg,hy];rfl)
    have HX:=zrj hx
    have HY:=zrj hy
    clear hx hy
    by_cases hxy:x=y
    ·have HQ:=zrj (fun W=>(Z4 x y W).trans (by rw[decide_eq_true hxy]))
     have HN:=zrj (ujo HT.out HX.out (hxy ▸ HY.out))
     clear hxy HX HY HT
     go_wp2_with fail
     refine wp_region_quiet_lit (by kernel_rfl) (by kernel_rfl) ?_
     repeat(first
      | (refine uzm rfl _ _ _ _ rfl (Z5 x) (Z5 y) true rfl rfl Z6 HQ.out ?_;simp only[Act.put,ma,mb,mc,Bool.not_true,Bool.not_false])
      | (refine uqq rfl _ _ rfl (a.add (k*Z7)) rfl (Z8 x) _ ?_ Z9 rfl Z10 ?_;(focus (rintro w5 ⟨n5,rfl⟩;exact hat.drewN n5));simp only[Act.put,ma,mb,mc])
      | (refine uqq rfl _ _ rfl (b.add (k*Z7)) rfl (Z8 y) _ ?_ Z9 rfl Z10 ?_;(focus (rintro w5 ⟨n5,rfl⟩;exact hbt.drewN n5));simp only[Act.put,ma,mb,mc])
      | go_big_quiet_step (fail))
     refine wpQuiet_nil ?_
     intro _ hw'
     obtain⟨nq,hw''⟩:=hw'
     subst hw''
     go_wp2_with fail
     go_roundw
     case rel=>exact⟨k+1,by exact oSeqJ1,by go_num,uqn hbr nq,HN.out⟩
     case measure=>simp[intOf];exact oSeqJ1
    ·have HQ:=zrj (fun W=>(Z4 x y W).trans (by rw[decide_eq_false hxy]))
     have HN:=zrj (ukz hxy HX.out HY.out)
     clear hxy HX HY HT
     go_wp2_with fail
     refine wp_region_quiet_lit (by kernel_rfl) (by kernel_rfl) ?_
     repeat(first
      | (refine uzm rfl _ _ _ _ rfl (Z5 x) (Z5 y) false rfl rfl Z6 HQ.out ?_;simp only[Act.put,ma,mb,mc,Bool.not_true,Bool.not_false])
      | (refine uqq rfl _ _ rfl (a.add (k*Z7)) rfl (Z8 x) _ ?_ Z9 rfl Z10 ?_;(focus (rintro w5 ⟨n5,rfl⟩;exact hat.drewN n5));simp only[Act.put,ma,mb,mc])
      | (refine uqq rfl _ _ rfl (b.add (k*Z7)) rfl (Z8 y) _ ?_ Z9 rfl Z10 ?_;(focus (rintro w5 ⟨n5,rfl⟩;exact hbt.drewN n5));simp only[Act.put,ma,mb,mc])
      | go_big_quiet_step (fail))
     refine wpQuiet_nil ?_
     intro _ hw'
     obtain⟨nq,hw''⟩:=hw'
     subst hw''
     go_wp2_with fail
     go_ret
     exact⟨by rw[decide_eq_false HN.out];rfl,uqn hbr nq⟩
   ·obtain rfl:k=l.length:=by exact oSeqJ1
    have HE:=zrj (show l=m from by have:=HT.out;rwa [List.take_length,HLEN.out,List.take_length] at this)
    clear HT
    go_wp2_with fail
    go_ret
    exact⟨by rw[decide_eq_true HE.out];rfl,hbr⟩
 ·have hb:((l.length:Int) != (m.length:Int))=true:=by rw[bne_iff_ne];exact oSeqJ1
  have HN:=zrj (show l≠m from fun e=>hlen (by rw[e]))
  clear hlen
  go_enter Z1,Z2
  go_wp2_with fail
  go_ret
  exact⟨by rw[decide_eq_false HN.out];rfl,zri _ _⟩):p:=h
@[simp] abbrev cSeqJ0J:Nat:=5
@[simp] abbrev cSeqJ0N:Nat:=3
@[simp] abbrev cSeqJ0L:Nat:=3
section
open Go.RowKit
open YtknmnhleicakhaaGreatDoor renaming rowJ -> Z3, eqInJ -> Z4, rwJ -> Z5, vxb -> Z6, cSeqJ0J -> Z7, rlJ -> Z8, uqo -> Z10
open Go.Proofs.Tryz renaming func118 -> Z1, ntmps118 -> Z2, underlying38 -> Z9
theorem seqJ_any (p q:Zoa) (c c':Nat) (l m:List JobD) (w:World) (hp:Elts w w.heap.size 5 p (l.map rowJ)) (hq:Elts w w.heap.size 5 q (m.map rowJ)) (hl:l.length<=4611686018427387904) (hm:m.length<=4611686018427387904) :
  Calls prog 118 #[.slice p l.length c,.slice q m.length c'] w fun e w'=>e=.returned (.bool (decide (l=m)))/\Below w.heap.size w w':=sSeqJ1
end
section
open Go.RowKit
open YtknmnhleicakhaaGreatDoor renaming rowN -> Z3, eqInN -> Z4, rwN -> Z5, vxd -> Z6, cSeqJ0N -> Z7, rlN -> Z8, uqk -> Z10
open Go.Proofs.Tryz renaming func119 -> Z1, ntmps119 -> Z2, underlying40 -> Z9
theorem seqN_any (p q:Zoa) (c c':Nat) (l m:List NodeD) (w:World) (hp:Elts w w.heap.size 3 p (l.map rowN)) (hq:Elts w w.heap.size 3 q (m.map rowN)) (hl:l.length<=4611686018427387904) (hm:m.length<=4611686018427387904) :
  Calls prog 119 #[.slice p l.length c,.slice q m.length c'] w fun e w'=>e=.returned (.bool (decide (l=m)))/\Below w.heap.size w w':=sSeqJ1
end
section
open Go.RowKit
open YtknmnhleicakhaaGreatDoor renaming rowL -> Z3, eqInL -> Z4, rwL -> Z5, vxc -> Z6, cSeqJ0L -> Z7, rlL -> Z8, uqj -> Z10
open Go.Proofs.Tryz renaming func120 -> Z1, ntmps120 -> Z2, underlying42 -> Z9
theorem seqL_any (p q:Zoa) (c c':Nat) (l m:List uqb) (w:World) (hp:Elts w w.heap.size 3 p (l.map rowL)) (hq:Elts w w.heap.size 3 q (m.map rowL)) (hl:l.length<=4611686018427387904) (hm:m.length<=4611686018427387904) :
  Calls prog 120 #[.slice p l.length c,.slice q m.length c'] w fun e w'=>e=.returned (.bool (decide (l=m)))/\Below w.heap.size w w':=sSeqJ1
end
theorem vka (a b:St) (p1 p2 p3 q1 q2 q3:Zoa) (c1 c2 c3 d1 d2 d3:Nat) (w:World) (ha:StM w w.heap.size p1 p2 p3 a) (hb:StM w w.heap.size q1 q2 q3 b) (hza:StSz a) (hzb:StSz b) :
  Calls prog 72 #[.agg (stv a p1 p2 p3 c1 c2 c3),.agg (stv b q1 q2 q3 d1 d2 d3)] w fun e w'=>e=.returned (.bool (sameT a b))/\Below w.heap.size w w':=by
 have hJ:=fun(W:World) (hW:Below w.heap.size w W)=>seqJ_any p1 q1 c1 d1 a.jobs b.jobs W ((ha.j.below hW).more hW.size) ((hb.j.below hW).more hW.size) hza.lj hzb.lj
 have hN:=fun(W:World) (hW:Below w.heap.size w W)=>seqN_any p2 q2 c2 d2 a.nodes b.nodes W ((ha.n.below hW).more hW.size) ((hb.n.below hW).more hW.size) hza.ln hzb.ln
 have hL:=fun(W:World) (hW:Below w.heap.size w W)=>seqL_any p3 q3 c3 d3 a.leases b.leases W ((ha.l.below hW).more hW.size) ((hb.l.below hW).more hW.size) hza.ll hzb.ll
 have bA:=Blk.new w 26 (stv a p1 p2 p3 c1 c2 c3)
 have hs1:=zsb w (.cells (stv a p1 p2 p3 c1 c2 c3) 26)
 have bB:=Blk.new (w.alloc (.cells (stv a p1 p2 p3 c1 c2 c3) 26)) 26 (stv b q1 q2 q3 d1 d2 d3)
 have bA:=bA.alloc (.cells (stv b q1 q2 q3 d1 d2 d3) 26)
 have hB0:Below w.heap.size w ((w.alloc (.cells (stv a p1 p2 p3 c1 c2 c3) 26)).alloc (.cells (stv b q1 q2 q3 d1 d2 d3) 26)):=((zri _ _).alloc (zra _) _).alloc (by omega) _
 rw[hs1] at bB
 have HV:=zrj (show sameT a b=(decide (a.jobs=b.jobs)&&decide (a.nodes=b.nodes)&&decide (a.leases=b.leases)) from by
  unfold sameT;simp only[Bool.decide_and,Bool.and_assoc])
 have HJ:=zrj hJ
 have HN:=zrj hN
 have HL:=zrj hL
 clear hJ hN hL ha hb hza hzb
 generalize hj:decide (a.jobs=b.jobs)=xj at *
 generalize hn:decide (a.nodes=b.nodes)=xn at *
 generalize hl:decide (a.leases=b.leases)=xl at *
 clear hj hn hl
 cases xj
 ·go_enter func72,ntmps72
  go_wp2_with fail
  refine(HJ.out _ hB0).mono ?_
  rintro e w1 ⟨rfl,hb1⟩
  have hB1:=bthen hB0 hb1
  go_wp2_with fail
  go_ret
  exact⟨by rw[HV.out];rfl,hB1⟩
 ·cases xn
  ·go_enter func72,ntmps72
   go_wp2_with fail
   generalize(w.alloc _).alloc _=W at *
   refine(HJ.out _ hB0).mono ?_
   rintro e w1 ⟨rfl,hb1⟩
   have hB1:=bthen hB0 hb1
   have bA1:=bA.bl hb1
   have bB1:=bB.bl hb1
   have e1:=bA1.c2
   have e2:=bB1.c2
   go_wp2_with fail
   refine(HN.out _ hB1).mono ?_
   rintro e w2 ⟨rfl,hb2⟩
   have hB2:=bthen hB1 hb2
   go_wp2_with fail
   go_ret
   exact⟨by rw[HV.out];rfl,hB2⟩
  ·go_enter func72,ntmps72
   go_wp2_with fail
   generalize(w.alloc _).alloc _=W at *
   refine(HJ.out _ hB0).mono ?_
   rintro e w1 ⟨rfl,hb1⟩
   have hB1:=bthen hB0 hb1
   have bA1:=bA.bl hb1
   have bB1:=bB.bl hb1
   have e1:=bA1.c2
   have e2:=bB1.c2
   clear bA bB
   go_wp2_with fail
   refine(HN.out _ hB1).mono ?_
   rintro e w2 ⟨rfl,hb2⟩
   have hB2:=bthen hB1 hb2
   have bA2:=bA1.bl hb2
   have bB2:=bB1.bl hb2
   clear e1 e2
   have e1:=bA2.c3
   have e2:=bB2.c3
   go_wp2_with fail
   refine(HL.out _ hB2).mono ?_
   rintro e w3 ⟨rfl,hb3⟩
   have hB3:=bthen hB2 hb3
   go_wp2_with fail
   go_ret
   exact⟨by rw[HV.out];rfl,hB3⟩
end Go.Proofs.YtknmnhleicakhaaGreatDoor
