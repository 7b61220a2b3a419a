/- Lemmas.
-/
import Derived.Test.YtnnfgchhkekkeacGreatDoorPvSrvP
set_option linter.all false
set_option maxHeartbeats 16000000
set_option maxRecDepth 100000
namespace Go.Proofs.YtnnfgchhkekkeacGreatDoor
open Go.Proofs.Tryz
theorem oSeqJ1 {p:Prop} (h:p:=by first | omega | (simp only[Z7] at *;omega)):p:=h
theorem sSeqJ1 {p:Prop} (h:p:=by
 by_cases hlen:l.length=m.length
 ·have hb:((l.length:Int) != (m.length:Int))=false:=by rw[hlen];simp
  have h1:l.length<=m.length:=by exact oSeqJ1
  have h2:m.length<=l.length:=by exact oSeqJ1
  have HLEN:=zrj hlen
  clear hlen
  go_enter Z1,Z2
  go_wp2_with fail
  go_loopw [13] (fun i wr=>∃k:Nat,k<=l.length/\i=.int .i64 k/\Below w.heap.size w wr/\Hid (l.take k=m.take k)) (fun i _=>l.length-(intOf i).toNat)
  case atStart=>exact⟨0,Nat.zero_le _,rfl,zri _ _,(show _=_ from rfl)⟩
  case round =>
   obtain⟨k,hk,rfl,hbr,HT⟩:=hrel
   by_cases hlt:k<l.length
   ·have hkm:k<m.length:=by exact oSeqJ1
    have hx:l[k]?=some l[k]:=zrd hlt
    have hy:m[k]?=some m[k]:=zrd hkm
    generalize l[k]=x at *
    generalize m[k]=y at *
    obtain⟨a,rfl,hab,_,hat⟩:=(hp.below hbr).at_ (k:=k) (r:=Z3 x) (by rw[zrg,hx];rfl)
    obtain⟨b,rfl,hbb,_,hbt⟩:=(hq.below hbr).at_ (k:=k) (r:=Z3 y) (by rw[zrg,hy];rfl)
    have HX:=zrj hx
    have HY:=zrj hy
    clear hx hy
    by_cases hxy:x=y
    ·have HQ:=zrj (fun W=>(Z4 x y W).trans (by rw[decide_eq_true hxy]))
     have HN:=zrj (uz1 HT.out HX.out (hxy ▸ HY.out))
     clear hxy HX HY HT
     go_wp2_with fail
     refine wp_region_quiet_lit (by kernel_rfl) (by kernel_rfl) ?_
     repeat(first
      | (refine ux4 rfl _ _ _ _ rfl (Z5 x) (Z5 y) true rfl rfl Z6 HQ.out ?_;simp only[Act.put,ma,mb,mc,Bool.not_true,Bool.not_false])
      | (refine uqp rfl _ _ rfl (a.add (k*Z7)) rfl (Z8 x) _ ?_ Z9 rfl Z10 ?_;(focus (rintro w5 ⟨n5,rfl⟩;exact hat.drewN n5));simp only[Act.put,ma,mb,mc])
      | (refine uqp rfl _ _ rfl (b.add (k*Z7)) rfl (Z8 y) _ ?_ Z9 rfl Z10 ?_;(focus (rintro w5 ⟨n5,rfl⟩;exact hbt.drewN n5));simp only[Act.put,ma,mb,mc])
      | go_big_quiet_step (fail))
     refine wpQuiet_nil ?_
     intro _ hw'
     obtain⟨nq,hw''⟩:=hw'
     subst hw''
     go_wp2_with fail
     go_roundw
     case rel=>exact⟨k+1,by exact oSeqJ1,by go_num,uql hbr nq,HN.out⟩
     case measure=>simp[intOf];exact oSeqJ1
    ·have HQ:=zrj (fun W=>(Z4 x y W).trans (by rw[decide_eq_false hxy]))
     have HN:=zrj (uj5 hxy HX.out HY.out)
     clear hxy HX HY HT
     go_wp2_with fail
     refine wp_region_quiet_lit (by kernel_rfl) (by kernel_rfl) ?_
     repeat(first
      | (refine ux4 rfl _ _ _ _ rfl (Z5 x) (Z5 y) false rfl rfl Z6 HQ.out ?_;simp only[Act.put,ma,mb,mc,Bool.not_true,Bool.not_false])
      | (refine uqp rfl _ _ rfl (a.add (k*Z7)) rfl (Z8 x) _ ?_ Z9 rfl Z10 ?_;(focus (rintro w5 ⟨n5,rfl⟩;exact hat.drewN n5));simp only[Act.put,ma,mb,mc])
      | (refine uqp rfl _ _ rfl (b.add (k*Z7)) rfl (Z8 y) _ ?_ Z9 rfl Z10 ?_;(focus (rintro w5 ⟨n5,rfl⟩;exact hbt.drewN n5));simp only[Act.put,ma,mb,mc])
      | go_big_quiet_step (fail))
     refine wpQuiet_nil ?_
     intro _ hw'
     obtain⟨nq,hw''⟩:=hw'
     subst hw''
     go_wp2_with fail
     go_ret
     exact⟨by rw[decide_eq_false HN.out];rfl,uql hbr nq⟩
   ·obtain rfl:k=l.length:=by exact oSeqJ1
    have HE:=zrj (show l=m from by have:=HT.out;rwa [List.take_length,HLEN.out,List.take_length] at this)
    clear HT
    go_wp2_with fail
    go_ret
    exact⟨by rw[decide_eq_true HE.out];rfl,hbr⟩
 ·have hb:((l.length:Int) != (m.length:Int))=true:=by rw[bne_iff_ne];exact oSeqJ1
  have HN:=zrj (show l≠m from fun e=>hlen (by rw[e]))
  clear hlen
  go_enter Z1,Z2
  go_wp2_with fail
  go_ret
  exact⟨by rw[decide_eq_false HN.out];rfl,zri _ _⟩):p:=h
@[simp] abbrev cSeqJ0J:Nat:=5
@[simp] abbrev cSeqJ0N:Nat:=3
@[simp] abbrev cSeqJ0L:Nat:=3
section
open Go.RowKit
open YtnnfgchhkekkeacGreatDoor renaming rowJ -> Z3, eqInJ -> Z4, rwJ -> Z5, uw6 -> Z6, cSeqJ0J -> Z7, rlJ -> Z8, uqo -> Z10
open Go.Proofs.Tryz renaming func123 -> Z1, ntmps123 -> Z2, underlying40 -> Z9
theorem seqJ_any (p q:Zoa) (c c':Nat) (l m:List JobD) (w:World) (hp:Elts w w.heap.size 5 p (l.map rowJ)) (hq:Elts w w.heap.size 5 q (m.map rowJ)) (hl:l.length<=4611686018427387904) (hm:m.length<=4611686018427387904) :
  Calls prog 123 #[.slice p l.length c,.slice q m.length c'] w fun e w'=>e=.returned (.bool (decide (l=m)))/\Below w.heap.size w w':=sSeqJ1
end
section
open Go.RowKit
open YtnnfgchhkekkeacGreatDoor renaming rowN -> Z3, eqInN -> Z4, rwN -> Z5, uw8 -> Z6, cSeqJ0N -> Z7, rlN -> Z8, uqm -> Z10
open Go.Proofs.Tryz renaming func124 -> Z1, ntmps124 -> Z2, underlying42 -> Z9
theorem seqN_any (p q:Zoa) (c c':Nat) (l m:List NodeD) (w:World) (hp:Elts w w.heap.size 3 p (l.map rowN)) (hq:Elts w w.heap.size 3 q (m.map rowN)) (hl:l.length<=4611686018427387904) (hm:m.length<=4611686018427387904) :
  Calls prog 124 #[.slice p l.length c,.slice q m.length c'] w fun e w'=>e=.returned (.bool (decide (l=m)))/\Below w.heap.size w w':=sSeqJ1
end
section
open Go.RowKit
open YtnnfgchhkekkeacGreatDoor renaming rowL -> Z3, eqInL -> Z4, rwL -> Z5, uw7 -> Z6, cSeqJ0L -> Z7, rlL -> Z8, uqi -> Z10
open Go.Proofs.Tryz renaming func125 -> Z1, ntmps125 -> Z2, underlying44 -> Z9
theorem seqL_any (p q:Zoa) (c c':Nat) (l m:List uqc) (w:World) (hp:Elts w w.heap.size 3 p (l.map rowL)) (hq:Elts w w.heap.size 3 q (m.map rowL)) (hl:l.length<=4611686018427387904) (hm:m.length<=4611686018427387904) :
  Calls prog 125 #[.slice p l.length c,.slice q m.length c'] w fun e w'=>e=.returned (.bool (decide (l=m)))/\Below w.heap.size w w':=sSeqJ1
end
open Go.RowKit
theorem vxq (a b:St) (p1 p2 p3 q1 q2 q3:Zoa) (c1 c2 c3 d1 d2 d3:Nat) (w:World) (ha:StM w w.heap.size p1 p2 p3 a) (hb:StM w w.heap.size q1 q2 q3 b) (hza:StSz a) (hzb:StSz b) :
  Calls prog 102 #[.agg (stv a p1 p2 p3 c1 c2 c3),.agg (stv b q1 q2 q3 d1 d2 d3)] w fun e w'=>e=.returned (.bool (sameT a b))/\Below w.heap.size w w':=by
 have hJ:=fun(W:World) (hW:Below w.heap.size w W)=>seqJ_any p1 q1 c1 d1 a.jobs b.jobs W ((ha.j.below hW).more hW.size) ((hb.j.below hW).more hW.size) hza.lj hzb.lj
 have hN:=fun(W:World) (hW:Below w.heap.size w W)=>seqN_any p2 q2 c2 d2 a.nodes b.nodes W ((ha.n.below hW).more hW.size) ((hb.n.below hW).more hW.size) hza.ln hzb.ln
 have hL:=fun(W:World) (hW:Below w.heap.size w W)=>seqL_any p3 q3 c3 d3 a.leases b.leases W ((ha.l.below hW).more hW.size) ((hb.l.below hW).more hW.size) hza.ll hzb.ll
 have bA:=Blk.new w 26 (stv a p1 p2 p3 c1 c2 c3)
 have hs1:=zsb w (.cells (stv a p1 p2 p3 c1 c2 c3) 26)
 have bB:=Blk.new (w.alloc (.cells (stv a p1 p2 p3 c1 c2 c3) 26)) 26 (stv b q1 q2 q3 d1 d2 d3)
 have bA:=bA.alloc (.cells (stv b q1 q2 q3 d1 d2 d3) 26)
 have hB0:Below w.heap.size w ((w.alloc (.cells (stv a p1 p2 p3 c1 c2 c3) 26)).alloc (.cells (stv b q1 q2 q3 d1 d2 d3) 26)):=((zri _ _).alloc (zra _) _).alloc (by omega) _
 rw[hs1] at bB
 have HV:=zrj (show sameT a b=(decide (a.jobs=b.jobs)&&decide (a.nodes=b.nodes)&&decide (a.leases=b.leases)) from by
  unfold sameT;simp only[Bool.decide_and,Bool.and_assoc])
 have HJ:=zrj hJ
 have HN:=zrj hN
 have HL:=zrj hL
 clear hJ hN hL ha hb hza hzb
 generalize hj:decide (a.jobs=b.jobs)=xj at *
 generalize hn:decide (a.nodes=b.nodes)=xn at *
 generalize hl:decide (a.leases=b.leases)=xl at *
 clear hj hn hl
 cases xj
 ·go_enter func102,ntmps102
  go_wp2_with fail
  refine(HJ.out _ hB0).mono ?_
  rintro e w1 ⟨rfl,hb1⟩
  have hB1:=bthen hB0 hb1
  go_wp2_with fail
  go_ret
  exact⟨by rw[HV.out];rfl,hB1⟩
 ·cases xn
  ·go_enter func102,ntmps102
   go_wp2_with fail
   generalize(w.alloc _).alloc _=W at *
   refine(HJ.out _ hB0).mono ?_
   rintro e w1 ⟨rfl,hb1⟩
   have hB1:=bthen hB0 hb1
   have bA1:=bA.bl hb1
   have bB1:=bB.bl hb1
   have e1:=bA1.c2
   have e2:=bB1.c2
   go_wp2_with fail
   refine(HN.out _ hB1).mono ?_
   rintro e w2 ⟨rfl,hb2⟩
   have hB2:=bthen hB1 hb2
   go_wp2_with fail
   go_ret
   exact⟨by rw[HV.out];rfl,hB2⟩
  ·go_enter func102,ntmps102
   go_wp2_with fail
   generalize(w.alloc _).alloc _=W at *
   refine(HJ.out _ hB0).mono ?_
   rintro e w1 ⟨rfl,hb1⟩
   have hB1:=bthen hB0 hb1
   have bA1:=bA.bl hb1
   have bB1:=bB.bl hb1
   have e1:=bA1.c2
   have e2:=bB1.c2
   clear bA bB
   go_wp2_with fail
   refine(HN.out _ hB1).mono ?_
   rintro e w2 ⟨rfl,hb2⟩
   have hB2:=bthen hB1 hb2
   have bA2:=bA1.bl hb2
   have bB2:=bB1.bl hb2
   clear e1 e2
   have e1:=bA2.c3
   have e2:=bB2.c3
   go_wp2_with fail
   refine(HL.out _ hB2).mono ?_
   rintro e w3 ⟨rfl,hb3⟩
   have hB3:=bthen hB2 hb3
   go_wp2_with fail
   go_ret
   exact⟨by rw[HV.out];rfl,hB3⟩
end Go.Proofs.YtnnfgchhkekkeacGreatDoor
