/-
  Several texts in one: VHubShut.
-/
import Derived.Test.YtibiankbmhdljaaGreatDoorPkFact
import Derived.Test.YtibiankbmhdljaaGreatDoorPkActs
set_option linter.all false
set_option maxHeartbeats 16000000
set_option maxRecDepth 100000
namespace Go.Proofs.YtibiankbmhdljaaGreatDoor.hubShut
open Go.ChangeShapes Go.WideShapes Go.ChangeAt Go.RowKit Go.Joins
open Go.ChangeMaps (open_string)
theorem walk (s0 : St) (pj0 pn0 pl0 : Option Addr) (cj0 cn0 cl0 : Nat) (w : World) (hm0 : StM w w.heap.size pj0 pn0 pl0 s0) (hk0 : StOk s0) (a1 : ByteArray) (b1 : a1.size ≤ 140737488351232) (x2 : ReqD) (hk2 : okQ x2) (hT : Tabs w) :
  Calls Tryz.prog 6 #[.agg (stv s0 pj0 pn0 pl0 cj0 cn0 cl0), .string a1, .agg #[.int .i64 x2.kind, .string x2.job.name, .int .i64 x2.job.prio, .int .i64 x2.job.need, .int .i64 x2.job.tries, .string x2.job.tag, .string x2.node.name, .int .i64 x2.node.room, .string x2.node.zone, .string x2.lease.job, .string x2.lease.node, .int .i64 x2.lease.till, .string x2.name, .int .i64 x2.n]] w fun e w' => e = .returned (.bool true) ∧ Below w.heap.size w w' := by
 have bS0 := Blk.new w 26 (stv s0 pj0 pn0 pl0 cj0 cn0 cl0)
 have hs1 : (w.alloc (.cells (stv s0 pj0 pn0 pl0 cj0 cn0 cl0) 26)).heap.size = w.heap.size + 1 := by simp
 have b1_ := wv0 hs1 43 #[.int .i64 x2.kind, .string x2.job.name, .int .i64 x2.job.prio, .int .i64 x2.job.need, .int .i64 x2.job.tries, .string x2.job.tag, .string x2.node.name, .int .i64 x2.node.room, .string x2.node.zone, .string x2.lease.job, .string x2.lease.node, .int .i64 x2.lease.till, .string x2.name, .int .i64 x2.n]
 have b0_ := bS0.alloc (.cells #[.int .i64 x2.kind, .string x2.job.name, .int .i64 x2.job.prio, .int .i64 x2.job.need, .int .i64 x2.job.tries, .string x2.job.tag, .string x2.node.name, .int .i64 x2.node.room, .string x2.node.zone, .string x2.lease.job, .string x2.lease.node, .int .i64 x2.lease.till, .string x2.name, .int .i64 x2.n] 43)
 have c0 := ((zri w.heap.size w).alloc (zra _) (.cells (stv s0 pj0 pn0 pl0 cj0 cn0 cl0) 26)).alloc (by simp) (.cells #[.int .i64 x2.kind, .string x2.job.name, .int .i64 x2.job.prio, .int .i64 x2.job.need, .int .i64 x2.job.tries, .string x2.job.tag, .string x2.node.name, .int .i64 x2.node.room, .string x2.node.zone, .string x2.lease.job, .string x2.lease.node, .int .i64 x2.lease.till, .string x2.name, .int .i64 x2.n] 43)
 clear bS0 hs1
 have HM := zrj hm0
 have HZ := zrj hk0.sz
 have HT := zrj hT
 have HSQ := zrj (ReqSz.of hk2)
 have hzf := uxu
 clear hm0 hk0 hT hk2
 by_cases hE : uqv s0 = 0
 rotate_left
 ·have hne : (((uqv s0 : Nat) : Int) != 0) = true := by rw [bne_iff_ne]; omega
  have HE := zrj hE
  clear hE
  go_enter Tryz.func6, Tryz.ntmps6
  go_wp2_with (first | (refine uqa (by rfl) _ _ rfl (w.heap.size) rfl _ _ b0_ _ Tryz.underlying26 rfl uqh ?_) | (refine uqa (by rfl) _ _ rfl ((w.heap.size + 1)) rfl _ #[.int .i64 x2.kind, .string x2.job.name, .int .i64 x2.job.prio, .int .i64 x2.job.need, .int .i64 x2.job.tries, .string x2.job.tag, .string x2.node.name, .int .i64 x2.node.room, .string x2.node.zone, .string x2.lease.job, .string x2.lease.node, .int .i64 x2.lease.till, .string x2.name, .int .i64 x2.n] b1_ _ Tryz.underlying43 rfl uqb ?_))
  generalize (w.alloc _).alloc _ = W1 at *
  refine (uzv _ (HT.out.below c0)).mono ?_
  rintro e w1 ⟨rfl, hb2⟩
  have b3 := b0_.below hb2 b0_.lt
  have b4 := b1_.below hb2 b1_.lt
  have c5 := c0.trans (hb2.mono c0.size)
  clear b0_ b1_ c0 hb2
  go_wp2_with (first | (refine uqa (by rfl) _ _ rfl (w.heap.size) rfl _ _ b3 _ Tryz.underlying26 rfl uqh ?_) | (refine uqa (by rfl) _ _ rfl ((w.heap.size + 1)) rfl _ #[.int .i64 x2.kind, .string x2.job.name, .int .i64 x2.job.prio, .int .i64 x2.job.need, .int .i64 x2.job.tries, .string x2.job.tag, .string x2.node.name, .int .i64 x2.node.room, .string x2.node.zone, .string x2.lease.job, .string x2.lease.node, .int .i64 x2.lease.till, .string x2.name, .int .i64 x2.n] b4 _ Tryz.underlying43 rfl uqb ?_))
  refine (vxh s0 _ _ _ _ _ _ _ ((HM.out.below c5).more c5.size) HZ.out (HT.out.below c5) HE.out).mono ?_
  rintro e w6 ⟨rfl, hb7⟩
  have b8 := b3.below hb7 b3.lt
  have b9 := b4.below hb7 b4.lt
  have c10 := c5.trans (hb7.mono c5.size)
  clear b3 b4 c5 hb7
  go_wp2_with (first | (refine uqa (by rfl) _ _ rfl (w.heap.size) rfl _ _ b8 _ Tryz.underlying26 rfl uqh ?_) | (refine uqa (by rfl) _ _ rfl ((w.heap.size + 1)) rfl _ #[.int .i64 x2.kind, .string x2.job.name, .int .i64 x2.job.prio, .int .i64 x2.job.need, .int .i64 x2.job.tries, .string x2.job.tag, .string x2.node.name, .int .i64 x2.node.room, .string x2.node.zone, .string x2.lease.job, .string x2.lease.node, .int .i64 x2.lease.till, .string x2.name, .int .i64 x2.n] b9 _ Tryz.underlying43 rfl uqb ?_))
  go_ret
  exact ⟨rfl, c10⟩
 have HE := zrj hE
 have F0 := zrj ((uxi s0).1 hE)
 clear hE
 go_enter Tryz.func6, Tryz.ntmps6
 go_wp2_with (first | (refine uqa (by rfl) _ _ rfl (w.heap.size) rfl _ _ b0_ _ Tryz.underlying26 rfl uqh ?_) | (refine uqa (by rfl) _ _ rfl ((w.heap.size + 1)) rfl _ #[.int .i64 x2.kind, .string x2.job.name, .int .i64 x2.job.prio, .int .i64 x2.job.need, .int .i64 x2.job.tries, .string x2.job.tag, .string x2.node.name, .int .i64 x2.node.room, .string x2.node.zone, .string x2.lease.job, .string x2.lease.node, .int .i64 x2.lease.till, .string x2.name, .int .i64 x2.n] b1_ _ Tryz.underlying43 rfl uqb ?_))
 generalize (w.alloc _).alloc _ = W1 at *
 refine (uzv _ (HT.out.below c0)).mono ?_
 rintro e w11 ⟨rfl, hb12⟩
 have b13 := b0_.below hb12 b0_.lt
 have b14 := b1_.below hb12 b1_.lt
 have c15 := c0.trans (hb12.mono c0.size)
 clear b0_ b1_ c0 hb12
 go_wp2_with (first | (refine uqa (by rfl) _ _ rfl (w.heap.size) rfl _ _ b13 _ Tryz.underlying26 rfl uqh ?_) | (refine uqa (by rfl) _ _ rfl ((w.heap.size + 1)) rfl _ #[.int .i64 x2.kind, .string x2.job.name, .int .i64 x2.job.prio, .int .i64 x2.job.need, .int .i64 x2.job.tries, .string x2.job.tag, .string x2.node.name, .int .i64 x2.node.room, .string x2.node.zone, .string x2.lease.job, .string x2.lease.node, .int .i64 x2.lease.till, .string x2.name, .int .i64 x2.n] b14 _ Tryz.underlying43 rfl uqb ?_))
 refine (uya s0 _ _ _ _ _ _ _ ((HM.out.below c15).more c15.size) HZ.out (HT.out.below c15) HE.out).mono ?_
 rintro e wN ⟨g, sv, fd, ws, rfl, HN_, hbN⟩
 have hB := zrj c15.size
 have HN := zrj HN_
 clear HN_
 have b16 := b13.below hbN b13.lt
 have b17 := b14.below hbN b14.lt
 have c18 := c15.trans (hbN.mono c15.size)
 clear b13 b14 c15 hbN
 go_wp2_with (first | (refine uqa (by rfl) _ _ rfl (w.heap.size) rfl _ _ b16 _ Tryz.underlying26 rfl uqh ?_) | (refine uqa (by rfl) _ _ rfl ((w.heap.size + 1)) rfl _ #[.int .i64 x2.kind, .string x2.job.name, .int .i64 x2.job.prio, .int .i64 x2.job.need, .int .i64 x2.job.tries, .string x2.job.tag, .string x2.node.name, .int .i64 x2.node.room, .string x2.node.zone, .string x2.lease.job, .string x2.lease.node, .int .i64 x2.lease.till, .string x2.name, .int .i64 x2.n] b17 _ Tryz.underlying43 rfl uqb ?_))
 by_cases h0 : (decF a1.data.toList).e = 0
 ·have HD := zrj (vqs a1 (by omega) h0)
  clear h0
  refine (HD.out _).mono ?_
  rintro e wD ⟨rfl, hbD⟩
  go_wp2_with (first | (refine uqg rfl _ _ _ rfl rfl 63 _ _ rfl uqs rfl (uj4 _ _ _) ?_))
  go_ret
  exact ⟨rfl, (c18.trans (hbD.mono c18.size)).alloc (zrc c18.size hbD.size) _⟩
 have HD := zrj (vx6 a1 (by omega) h0)
 have e0 : (((decF a1.data.toList).e : Int) == 0) = false := by rw [zrf]; omega
 by_cases h3 : (decF a1.data.toList).e = 3
 ·have e3 : (((decF a1.data.toList).e : Int) == 3) = true := by rw [h3]; rfl
  clear h0 h3
  generalize (decF a1.data.toList).e = er at *
  refine (HD.out _).mono ?_
  rintro e wD ⟨rfl, hbD⟩
  go_wp2_with (first | (refine uqg rfl _ _ _ rfl rfl 63 _ _ rfl uqs rfl (uj4 _ _ _) ?_))
  go_ret
  exact ⟨rfl, (c18.trans (hbD.mono c18.size)).alloc (zrc c18.size hbD.size) _⟩
 have e3 : (((decF a1.data.toList).e : Int) == 3) = false := by rw [zrf]; omega
 have HJF := zrj (wz6 (s := s0) (k := 1) h0)
 obtain ⟨j1, j2, j3, j4⟩ := xxu (s := s0) (k := 1) h0 h3
 have HJ1 := zrj j1
 have HJ2 := zrj j2
 have HJ3 := zrj (j3 2 (by decide))
 have HJ4 := zrj j4
 clear j1 j2 j3 j4 h0 h3
 generalize (decF a1.data.toList).e = er at *
 refine (HD.out _).mono ?_
 rintro e wD ⟨rfl, hbD⟩
 have hbD2 := hbD.alloc hbD.size (.cells #[.int .i64 0, .int .i64 0, .string .empty] 63)
 clear HD hbD
 have b19 := b16.below hbD2 b16.lt
 have b20 := b17.below hbD2 b17.lt
 have hh21 := zrj (HN.out.below hbD2)
 have c22 := c18.trans (hbD2.mono c18.size)
 clear b16 b17 HN c18 hbD2
 go_wp2_with (first | (refine uqg rfl _ _ _ rfl rfl 63 _ _ rfl uqs rfl (uj4 _ _ _) ?_))
 generalize wD.alloc _ = wE at *
 refine (ukm hh21.out (k := 1) (by decide) (uz8 F0.out) (fun W hW => HT.out.below (c22.trans (hW.mono hB.out))) a1 (by omega) (by rw [HJF.out]; decide) (fun n i hi => by
   have h := vjm (newH s0) 1 a1.data.toList n i
   rw [vxk, HJF.out] at h
   have h2 : ([] : List Fr).length = 0 := rfl
   omega) rfl).mono ?_
 rintro e w23 ⟨rfl, ws24, H25, C26⟩
 have b27 := C26.blk hh21.out b19 (by decide) (by decide) (by decide) (by decide)
 have b28 := C26.blk hh21.out b20 (by decide) (by decide) (by decide) (by decide)
 have c29 := c22.trans ((C26.under hh21.out).mono hB.out)
 have hh30 := zrj H25
 clear b19 b20 c22 C26 hh21 H25
 generalize (newH s0).send 1 a1.data.toList = h1 at *
 generalize (newH s0).out 1 a1.data.toList = out1 at *
 go_wp2_with (first | (refine uqa (by rfl) _ _ rfl (w.heap.size) rfl _ _ b27 _ Tryz.underlying26 rfl uqh ?_) | (refine uqa (by rfl) _ _ rfl ((w.heap.size + 1)) rfl _ #[.int .i64 x2.kind, .string x2.job.name, .int .i64 x2.job.prio, .int .i64 x2.job.need, .int .i64 x2.job.tries, .string x2.job.tag, .string x2.node.name, .int .i64 x2.node.room, .string x2.node.zone, .string x2.lease.job, .string x2.lease.node, .int .i64 x2.lease.till, .string x2.name, .int .i64 x2.n] b28 _ Tryz.underlying43 rfl uqb ?_))
 have HO1 := vkg hh30.out (k := 1) (by decide)
 rw [HJ1.out] at HO1
 refine (HO1).mono ?_
 rintro e w31 ⟨rfl, rfl⟩
 go_wp2_with (first | (refine uqa (by rfl) _ _ rfl (w.heap.size) rfl _ _ b27 _ Tryz.underlying26 rfl uqh ?_) | (refine uqa (by rfl) _ _ rfl ((w.heap.size + 1)) rfl _ #[.int .i64 x2.kind, .string x2.job.name, .int .i64 x2.job.prio, .int .i64 x2.job.need, .int .i64 x2.job.tries, .string x2.job.tag, .string x2.node.name, .int .i64 x2.node.room, .string x2.node.zone, .string x2.lease.job, .string x2.lease.node, .int .i64 x2.lease.till, .string x2.name, .int .i64 x2.n] b28 _ Tryz.underlying43 rfl uqb ?_))
 refine (vzg hh30.out (k := 1) (by decide) _ HJ1.out).mono ?_
 rintro e w32 ⟨rfl, rfl⟩
 go_upto_region 12 with (first | (refine uqa (by rfl) _ _ rfl (w.heap.size) rfl _ _ b27 _ Tryz.underlying26 rfl uqh ?_) | (refine uqa (by rfl) _ _ rfl ((w.heap.size + 1)) rfl _ #[.int .i64 x2.kind, .string x2.job.name, .int .i64 x2.job.prio, .int .i64 x2.job.need, .int .i64 x2.job.tries, .string x2.job.tag, .string x2.node.name, .int .i64 x2.node.room, .string x2.node.zone, .string x2.lease.job, .string x2.lease.node, .int .i64 x2.lease.till, .string x2.name, .int .i64 x2.n] b28 _ Tryz.underlying43 rfl uqb ?_))
 have HF1 := zrj (show Fine h1.srv.st by rw [HJ2.out]; exact F0.out)
 have hbR := (zri w23.heap.size w23).drew
 have b33 := b27.below hbR b27.lt
 have b34 := b28.below hbR b28.lt
 have hh35 := zrj (hh30.out.below hbR)
 have c36 := c29.trans (hbR.mono c29.size)
 clear b27 b28 hh30 c29 hbR
 refine wp_region_held_drew (S := fun W => Blk W w.heap.size 26 (stv s0 pj0 pn0 pl0 cj0 cn0 cl0)) (by kernel_rfl) b33 (fun hHeld => ?_)
 generalize w23.drew = W0 at *
 refine tq 0 ?_
 refine tq 1 ?_
 refine tq 2 ?_
 refine tq 3 ?_
 refine tq 4 ?_
 refine tq 5 ?_
 refine tq 6 ?_
 refine tq 7 ?_
 refine tq 8 ?_
 refine tq 9 ?_
 refine tq 10 ?_
 refine tq 11 ?_
 refine tq 12 ?_
 refine tq 13 ?_
 refine tq 14 ?_
 refine tq 16 ?_
 refine tr 15 rfl (fun K hK => ?_)
 go_simp
 refine (vzh hh35.out HF1.out).mono ?_
 rintro e w37 ⟨qa, qb, qc, da, db, dc, rfl, hO1, hb38⟩
 have b39 := b33.below hb38 b33.lt
 have b40 := b34.below hb38 b34.lt
 have hh41 := zrj (hh35.out.below hb38)
 have c42 := c36.trans (hb38.mono c36.size)
 clear b33 b34 hh35 c36 hb38
 refine hK.out _ _ b39 (fun hHeld => ?_)
 clear hK K
 (try simp only [Act.put, ma, mb, mc, md, me, mf])
 refine tr 17 rfl (fun K hK => ?_)
 go_simp
 have HR := wvl h1.srv.st s0 qa qb qc pj0 pn0 pl0 da db dc cj0 cn0 cl0 w37 hO1.m ((HM.out.below c42).more c42.size) HF1.out.sz HZ.out
 rw [decide_eq_true (show h1.srv.st = s0 by rw [HJ2.out])] at HR
 clear hO1
 refine (HR).mono ?_
 rintro e w43 ⟨rfl, hb44⟩
 have b45 := b39.below hb44 b39.lt
 have b46 := b40.below hb44 b40.lt
 have hh47 := zrj (hh41.out.below hb44)
 have c48 := c42.trans (hb44.mono c42.size)
 clear b39 b40 hh41 c42 hb44
 refine hK.out _ _ b45 (fun hHeld => ?_)
 clear hK K
 (try simp only [Act.put, ma, mb, mc, md, me, mf])
 refine tq 18 ?_
 refine tq 19 ?_
 refine wpAnyH_done (by kernel_rfl) ?_ _
 have HBy := fun W hW => uvx x2 W HSQ.out hW
 by_cases hq : reqE x2 = 0
 rotate_left
 ·rw [decide_eq_false hq] at HBy
  have HBy := zrj HBy
  clear hq
  go_wp2_with (first | (refine uqa (by rfl) _ _ rfl (w.heap.size) rfl _ _ b45 _ Tryz.underlying26 rfl uqh ?_) | (refine uqa (by rfl) _ _ rfl ((w.heap.size + 1)) rfl _ #[.int .i64 x2.kind, .string x2.job.name, .int .i64 x2.job.prio, .int .i64 x2.job.need, .int .i64 x2.job.tries, .string x2.job.tag, .string x2.node.name, .int .i64 x2.node.room, .string x2.node.zone, .string x2.lease.job, .string x2.lease.node, .int .i64 x2.lease.till, .string x2.name, .int .i64 x2.n] b46 _ Tryz.underlying43 rfl uqb ?_))
  refine (HBy.out _ (HT.out.below c48)).mono ?_
  rintro e w49 ⟨rfl, hb50⟩
  have b51 := b45.below hb50 b45.lt
  have b52 := b46.below hb50 b46.lt
  have hh53 := zrj (hh47.out.below hb50)
  have c54 := c48.trans (hb50.mono c48.size)
  clear b45 b46 hh47 c48 hb50
  go_wp2_with (first | (refine uqa (by rfl) _ _ rfl (w.heap.size) rfl _ _ b51 _ Tryz.underlying26 rfl uqh ?_) | (refine uqa (by rfl) _ _ rfl ((w.heap.size + 1)) rfl _ #[.int .i64 x2.kind, .string x2.job.name, .int .i64 x2.job.prio, .int .i64 x2.job.need, .int .i64 x2.job.tries, .string x2.job.tag, .string x2.node.name, .int .i64 x2.node.room, .string x2.node.zone, .string x2.lease.job, .string x2.lease.node, .int .i64 x2.lease.till, .string x2.name, .int .i64 x2.n] b52 _ Tryz.underlying43 rfl uqb ?_))
  go_ret
  exact ⟨rfl, c54⟩
 rw [decide_eq_true hq] at HBy
 have HBy := zrj HBy
 have hbl := ujo x2
 have HRF := zrj (vv4 HJ3.out hq)
 obtain ⟨k1, k2⟩ := req_send (h := h1) (by rw [HJ2.out]; exact uz8 F0.out) HJ3.out hq
 have HK1 := zrj (wqy k1)
 have HK2 := zrj k2
 clear hq k1 k2
 go_wp2_with (first | (refine uqa (by rfl) _ _ rfl (w.heap.size) rfl _ _ b45 _ Tryz.underlying26 rfl uqh ?_) | (refine uqa (by rfl) _ _ rfl ((w.heap.size + 1)) rfl _ #[.int .i64 x2.kind, .string x2.job.name, .int .i64 x2.job.prio, .int .i64 x2.job.need, .int .i64 x2.job.tries, .string x2.job.tag, .string x2.node.name, .int .i64 x2.node.room, .string x2.node.zone, .string x2.lease.job, .string x2.lease.node, .int .i64 x2.lease.till, .string x2.name, .int .i64 x2.n] b46 _ Tryz.underlying43 rfl uqb ?_))
 refine (HBy.out _ (HT.out.below c48)).mono ?_
 rintro e w55 ⟨rfl, hb56⟩
 have b57 := b45.below hb56 b45.lt
 have b58 := b46.below hb56 b46.lt
 have hh59 := zrj (hh47.out.below hb56)
 have c60 := c48.trans (hb56.mono c48.size)
 clear b45 b46 hh47 c48 hb56
 go_wp2_with (first | (refine uqa (by rfl) _ _ rfl (w.heap.size) rfl _ _ b57 _ Tryz.underlying26 rfl uqh ?_) | (refine uqa (by rfl) _ _ rfl ((w.heap.size + 1)) rfl _ #[.int .i64 x2.kind, .string x2.job.name, .int .i64 x2.job.prio, .int .i64 x2.job.need, .int .i64 x2.job.tries, .string x2.job.tag, .string x2.node.name, .int .i64 x2.node.room, .string x2.node.zone, .string x2.lease.job, .string x2.lease.node, .int .i64 x2.lease.till, .string x2.name, .int .i64 x2.n] b58 _ Tryz.underlying43 rfl uqb ?_))
 have HSd := ukm hh59.out (k := 2) (by decide) (by rw [HJ2.out]; exact uz8 F0.out) (fun W hW => HT.out.below (c60.trans (hW.mono hB.out))) (bstr (uq4 x2)) (by rw [uqy]; omega) (by rw [uqu, HRF.out]; exact (by decide : 1 ≤ 4398046511104)) (fun n i hi => by
   rw [uqu]
   have h := vjm h1 2 (uq4 x2) n i
   rw [HJ4.out, HRF.out] at h
   have h2 : [reqFr x2].length = 1 := rfl
   omega) (by rw [HJ3.out]; rfl)
 rw [uqu] at HSd
 refine (HSd).mono ?_
 rintro e w61 ⟨rfl, ws62, H63, C64⟩
 have b65 := C64.blk hh59.out b57 (by decide) (by decide) (by decide) (by decide)
 have b66 := C64.blk hh59.out b58 (by decide) (by decide) (by decide) (by decide)
 have c67 := c60.trans ((C64.under hh59.out).mono hB.out)
 have hh68 := zrj H63
 clear b57 b58 c60 C64 hh59 H63
 clear HSd
 have hem := HK1.out
 generalize bstr (encs (h1.out 2 (uq4 x2))) = out2 at *
 go_wp2_with (first | (refine uqa (by rfl) _ _ rfl (w.heap.size) rfl _ _ b65 _ Tryz.underlying26 rfl uqh ?_) | (refine uqa (by rfl) _ _ rfl ((w.heap.size + 1)) rfl _ #[.int .i64 x2.kind, .string x2.job.name, .int .i64 x2.job.prio, .int .i64 x2.job.need, .int .i64 x2.job.tries, .string x2.job.tag, .string x2.node.name, .int .i64 x2.node.room, .string x2.node.zone, .string x2.lease.job, .string x2.lease.node, .int .i64 x2.lease.till, .string x2.name, .int .i64 x2.n] b66 _ Tryz.underlying43 rfl uqb ?_))
 have HO2 := vkg hh68.out (k := 2) (by decide)
 rw [HK2.out, Bool.not_false] at HO2
 refine (HO2).mono ?_
 rintro e w69 ⟨rfl, rfl⟩
 go_wp2_with (first | (refine uqa (by rfl) _ _ rfl (w.heap.size) rfl _ _ b65 _ Tryz.underlying26 rfl uqh ?_) | (refine uqa (by rfl) _ _ rfl ((w.heap.size + 1)) rfl _ #[.int .i64 x2.kind, .string x2.job.name, .int .i64 x2.job.prio, .int .i64 x2.job.need, .int .i64 x2.job.tries, .string x2.job.tag, .string x2.node.name, .int .i64 x2.node.room, .string x2.node.zone, .string x2.lease.job, .string x2.lease.node, .int .i64 x2.lease.till, .string x2.name, .int .i64 x2.n] b66 _ Tryz.underlying43 rfl uqb ?_))
 go_ret
 exact ⟨rfl, c67⟩
end Go.Proofs.YtibiankbmhdljaaGreatDoor.hubShut
