/-
  Several texts in one: DoPut.
-/
import Derived.Test.YtaioadbenigdpaaGreatDoorPkHeld
import Derived.Test.YtaioadbenigdpaaGreatDoorPkSvA
import Derived.Test.YtaioadbenigdpaaGreatDoorPkPutJ
import Derived.Test.YtaioadbenigdpaaGreatDoorPkPutN
import Derived.Test.YtaioadbenigdpaaGreatDoorPkStateB
set_option linter.unusedVariables false
set_option linter.unusedSimpArgs false
set_option maxHeartbeats 16000000
set_option maxRecDepth 100000
namespace Go.Proofs.YtaioadbenigdpaaGreatDoor
open Go.RowKit
theorem do_putJ (q : ReqD) (base gn gw : Nat) (q1 q2 q3 : Option Addr) (d1 d2 d3 : Nat) (s : St) (now : Int) (w : World) (hM : WorkM w base gn gw q1 q2 q3 d1 d2 d3 s now) (hbw : base ≤ w.heap.size) (F : Fine s) (hT : ∀ W, Below base w W → Tabs W) (hq : reqE q = 0) (hkind : q.kind = 1) :
  Calls Tryz.prog 24 #[.pointer (some ⟨gw, 0, none⟩), .agg #[.int .i64 q.kind, .string q.job.name, .int .i64 q.job.prio, .int .i64 q.job.need, .int .i64 q.job.tries, .string q.job.tag, .string q.node.name, .int .i64 q.node.room, .string q.node.zone, .string q.lease.job, .string q.lease.node, .int .i64 q.lease.till, .string q.name, .int .i64 q.n]] w fun e w' => DoPost w base gn gw (doW ⟨s, now⟩ q) e w' := by
 have hE : jobE q.job = 0 := by have := (reqE_ok hq).2.2; unfold partE at this; simpa [hkind] using this
 have hD : doW ⟨s, now⟩ q = (⟨{ s with jobs := putL JobD.name s.jobs q.job }, now⟩, checkE { s with jobs := putL JobD.name s.jobs q.job }) := by unfold doW; simp [hkind]
 have hz := sz_putJ F hE
 have HP := Lib.hid (fun (W : World) (c : Nat) (p : Option Addr) (hO : Own W base 31 5 p c (s.jobs.map rowJ)) (hb : base ≤ W.heap.size) => putOJ_any s.jobs q.job base p c W hO hb F.sj (by have := F.nj; omega))
 have HD := Lib.hid hD
 have HZ := Lib.hid hz
 have HT := Lib.hid hT
 have hb0 : Below w.heap.size w ((w.alloc (.cells #[.pointer (some ⟨gw, 0, none⟩)] 67)).alloc (.cells #[.int .i64 q.kind, .string q.job.name, .int .i64 q.job.prio, .int .i64 q.job.need, .int .i64 q.job.tries, .string q.job.tag, .string q.node.name, .int .i64 q.node.room, .string q.node.zone, .string q.lease.job, .string q.lease.node, .int .i64 q.lease.till, .string q.name, .int .i64 q.n] 43)) := ((Below.refl _ _).alloc (Nat.le_refl _) _).alloc (by simp) _
 have hs1 : (w.alloc (.cells #[.pointer (some ⟨gw, 0, none⟩)] 67)).heap.size = w.heap.size + 1 := by simp
 have bb := (Blk.new w 67 #[.pointer (some ⟨gw, 0, none⟩)]).alloc (.cells #[.int .i64 q.kind, .string q.job.name, .int .i64 q.job.prio, .int .i64 q.job.need, .int .i64 q.job.tries, .string q.job.tag, .string q.node.name, .int .i64 q.node.room, .string q.node.zone, .string q.lease.job, .string q.lease.node, .int .i64 q.lease.till, .string q.name, .int .i64 q.n] 43)
 have bq : Blk ((w.alloc (.cells #[.pointer (some ⟨gw, 0, none⟩)] 67)).alloc (.cells #[.int .i64 q.kind, .string q.job.name, .int .i64 q.job.prio, .int .i64 q.job.need, .int .i64 q.job.tries, .string q.job.tag, .string q.node.name, .int .i64 q.node.room, .string q.node.zone, .string q.lease.job, .string q.lease.node, .int .i64 q.lease.till, .string q.name, .int .i64 q.n] 43)) (w.heap.size + 1) 43 #[.int .i64 q.kind, .string q.job.name, .int .i64 q.job.prio, .int .i64 q.job.need, .int .i64 q.job.tries, .string q.job.tag, .string q.node.name, .int .i64 q.node.room, .string q.node.zone, .string q.lease.job, .string q.lease.node, .int .i64 q.lease.till, .string q.name, .int .i64 q.n] := by have := Blk.new (w.alloc (.cells #[.pointer (some ⟨gw, 0, none⟩)] 67)) 43 #[.int .i64 q.kind, .string q.job.name, .int .i64 q.job.prio, .int .i64 q.job.need, .int .i64 q.job.tries, .string q.job.tag, .string q.node.name, .int .i64 q.node.room, .string q.node.zone, .string q.lease.job, .string q.lease.node, .int .i64 q.lease.till, .string q.name, .int .i64 q.n]; rwa [hs1] at this
 have hM0 := hM.below hb0
 have hbw0 := Nat.le_trans hbw hb0.size
 have hB0 : Below base w ((w.alloc (.cells #[.pointer (some ⟨gw, 0, none⟩)] 67)).alloc (.cells #[.int .i64 q.kind, .string q.job.name, .int .i64 q.job.prio, .int .i64 q.job.need, .int .i64 q.job.tries, .string q.job.tag, .string q.node.name, .int .i64 q.node.room, .string q.node.zone, .string q.lease.job, .string q.lease.node, .int .i64 q.lease.till, .string q.name, .int .i64 q.n] 43)) := hb0.mono hbw
 have hK0 := Kp.below hb0
 have hS0 := hb0.size
 clear hM hb0 hs1
 have kk1 : (q.kind == (1 : Int)) = true := by rw [hkind]; rfl
 clear hkind hq hE hD hz hT F
 go_enter Tryz.func24, Tryz.ntmps24
 go_upto_region 1 with fail
 generalize (w.alloc _).alloc _ = w0 at *
 have x0 : w0.cell? ⟨w.heap.size + 1, 0, none⟩ = some (.int .i64 q.kind) := bq.cell 0
 go_upto_region 4 with fail
 clear x0
 have G0 : Blk w0.drew w.heap.size 67 #[.pointer (some ⟨gw, 0, none⟩)] ∧ Blk w0.drew gw 70 #[.pointer (some ⟨gn, 0, none⟩), .int .i64 now] ∧ Blk w0.drew (w.heap.size + 1) 43 #[.int .i64 q.kind, .string q.job.name, .int .i64 q.job.prio, .int .i64 q.job.need, .int .i64 q.job.tries, .string q.job.tag, .string q.node.name, .int .i64 q.node.room, .string q.node.zone, .string q.lease.job, .string q.lease.node, .int .i64 q.lease.till, .string q.name, .int .i64 q.n] := ⟨bb.drew, hM0.bw.drew, bq.drew⟩
 have y0 : w0.drew.cell? ⟨gn, 1, none⟩ = some (.slice q1 s.jobs.length d1) := hM0.bn.cell 1
 refine wp_region_held_drew (S := fun W => Blk W w.heap.size 67 #[.pointer (some ⟨gw, 0, none⟩)] ∧ Blk W gw 70 #[.pointer (some ⟨gn, 0, none⟩), .int .i64 now] ∧ Blk W (w.heap.size + 1) 43 #[.int .i64 q.kind, .string q.job.name, .int .i64 q.job.prio, .int .i64 q.job.need, .int .i64 q.job.tries, .string q.job.tag, .string q.node.name, .int .i64 q.node.room, .string q.node.zone, .string q.lease.job, .string q.lease.node, .int .i64 q.lease.till, .string q.name, .int .i64 q.n]) (by kernel_rfl) G0 (fun hHeld => ?_)
 refine tk 0 (v := ?_) rfl (Or.inl ⟨by rfl, ?_⟩) ?_
 rotate_left
 ·(intro w5 hw5; obtain ⟨hb1_, hb2_, hb3_⟩ := hw5; have q1 := hb1_.cell; have q2 := hb2_.cell; have q3 := hb3_.cell; go_simp; (try with_reducible rfl))
 (try simp only [Act.put, ma, mb, mc, md, me, mf])
 refine tk 1 (v := ?_) rfl (Or.inl ⟨by rfl, ?_⟩) ?_
 rotate_left
 ·(intro w5 hw5; obtain ⟨hb1_, hb2_, hb3_⟩ := hw5; have q1 := hb1_.cell; have q2 := hb2_.cell; have q3 := hb3_.cell; go_simp; (try with_reducible rfl))
 (try simp only [Act.put, ma, mb, mc, md, me, mf])
 refine tk 2 (v := ?_) rfl (Or.inl ⟨by rfl, ?_⟩) ?_
 rotate_left
 ·(intro w5 hw5; obtain ⟨hb1_, hb2_, hb3_⟩ := hw5; have q1 := hb1_.cell; have q2 := hb2_.cell; have q3 := hb3_.cell; go_simp; (try with_reducible rfl))
 (try simp only [Act.put, ma, mb, mc, md, me, mf])
 refine tk 3 (v := ?_) rfl (Or.inl ⟨by rfl, ?_⟩) ?_
 rotate_left
 ·(intro w5 hw5; obtain ⟨hb1_, hb2_, hb3_⟩ := hw5; have q1 := hb1_.cell; have q2 := hb2_.cell; have q3 := hb3_.cell; go_simp; (try with_reducible rfl))
 (try simp only [Act.put, ma, mb, mc, md, me, mf])
 refine tk 4 (v := ?_) rfl (Or.inl ⟨by rfl, ?_⟩) ?_
 rotate_left
 ·(intro w5 hw5; obtain ⟨hb1_, hb2_, hb3_⟩ := hw5; have q1 := hb1_.cell; have q2 := hb2_.cell; have q3 := hb3_.cell; go_simp; (try with_reducible rfl))
 (try simp only [Act.put, ma, mb, mc, md, me, mf])
 refine tk 5 (v := ?_) rfl (Or.inl ⟨by rfl, ?_⟩) ?_
 rotate_left
 ·(intro w5 hw5; obtain ⟨hb1_, hb2_, hb3_⟩ := hw5; have q1 := hb1_.cell; have q2 := hb2_.cell; have q3 := hb3_.cell; go_simp; (try with_reducible rfl))
 (try simp only [Act.put, ma, mb, mc, md, me, mf])
 refine tk 6 (v := ?_) rfl (Or.inl ⟨by rfl, ?_⟩) ?_
 rotate_left
 ·(intro w5 hw5; obtain ⟨hb1_, hb2_, hb3_⟩ := hw5; have q1 := hb1_.cell; have q2 := hb2_.cell; have q3 := hb3_.cell; go_simp; (try with_reducible rfl))
 (try simp only [Act.put, ma, mb, mc, md, me, mf])
 refine tk 7 (v := ?_) rfl (Or.inl ⟨by rfl, ?_⟩) ?_
 rotate_left
 ·(intro w5 hw5; obtain ⟨hb1_, hb2_, hb3_⟩ := hw5; have q1 := hb1_.cell; have q2 := hb2_.cell; have q3 := hb3_.cell; go_simp; (try with_reducible rfl))
 (try simp only [Act.put, ma, mb, mc, md, me, mf])
 refine tk 8 (v := ?_) rfl (Or.inl ⟨by rfl, ?_⟩) ?_
 rotate_left
 ·(intro w5 hw5; obtain ⟨hb1_, hb2_, hb3_⟩ := hw5; have q1 := hb1_.cell; have q2 := hb2_.cell; have q3 := hb3_.cell; go_simp; (try with_reducible rfl))
 (try simp only [Act.put, ma, mb, mc, md, me, mf])
 refine tk 9 (v := ?_) rfl (Or.inl ⟨by rfl, ?_⟩) ?_
 rotate_left
 ·(intro w5 hw5; obtain ⟨hb1_, hb2_, hb3_⟩ := hw5; have q1 := hb1_.cell; have q2 := hb2_.cell; have q3 := hb3_.cell; go_simp; (try with_reducible rfl))
 (try simp only [Act.put, ma, mb, mc, md, me, mf])
 refine tk 11 (v := ?_) rfl (Or.inl ⟨by rfl, ?_⟩) ?_
 rotate_left
 ·(intro w5 hw5; obtain ⟨hb1_, hb2_, hb3_⟩ := hw5; have q1 := hb1_.cell; have q2 := hb2_.cell; have q3 := hb3_.cell; go_simp; (try with_reducible rfl))
 (try simp only [Act.put, ma, mb, mc, md, me, mf])
 refine tk 12 (v := ?_) rfl (Or.inl ⟨by rfl, ?_⟩) ?_
 rotate_left
 ·(intro w5 hw5; obtain ⟨hb1_, hb2_, hb3_⟩ := hw5; have q1 := hb1_.cell; have q2 := hb2_.cell; have q3 := hb3_.cell; go_simp; (try with_reducible rfl))
 (try simp only [Act.put, ma, mb, mc, md, me, mf])
 refine tr 10 rfl (fun K hK => ?_)
 go_simp
 refine hK.out _ _ ?_ (fun hHeld => ?_)
 ·exact G0
 clear hK K
 (try simp only [Act.put, ma, mb, mc, md, me, mf])
 refine tr 13 rfl (fun K hK => ?_)
 go_simp
 refine (HP.out w0.drew d1 q1 (hM0.below ((Below.refl _ w0).drew)).own.j hbw0).mono ?_
 rintro e w1 ⟨p', c', rfl, hO, hTc, _⟩
 have G1 : Blk w1 w.heap.size 67 #[.pointer (some ⟨gw, 0, none⟩)] ∧ Blk w1 gw 70 #[.pointer (some ⟨gn, 0, none⟩), .int .i64 now] ∧ Blk w1 (w.heap.size + 1) 43 #[.int .i64 q.kind, .string q.job.name, .int .i64 q.job.prio, .int .i64 q.job.need, .int .i64 q.job.tries, .string q.job.tag, .string q.node.name, .int .i64 q.node.room, .string q.node.zone, .string q.lease.job, .string q.lease.node, .int .i64 q.lease.till, .string q.name, .int .i64 q.n] := ⟨hTc.blk G0.1 (by decide), hTc.blk G0.2.1 (by decide), hTc.blk G0.2.2 (by decide)⟩
 have bn1 := hTc.blk hM0.bn.drew (by decide)
 have y1 : w1.cell? ⟨gn, 1, none⟩ = some (.slice q1 s.jobs.length d1) := bn1.cell 1
 have y2 : w1.frozen? ⟨gn, 1, none⟩ = false := bn1.frozen 1
 refine hK.out _ _ ?_ (fun hHeld => ?_)
 ·exact G1
 clear hK K
 (try simp only [Act.put, ma, mb, mc, md, me, mf])
 refine tk 14 (v := ?_) rfl (Or.inl ⟨by rfl, ?_⟩) ?_
 rotate_left
 ·(intro w5 hw5; obtain ⟨hb1_, hb2_, hb3_⟩ := hw5; have q1 := hb1_.cell; have q2 := hb2_.cell; have q3 := hb3_.cell; go_simp; (try with_reducible rfl))
 (try simp only [Act.put, ma, mb, mc, md, me, mf])
 refine tk 15 (v := ?_) rfl (Or.inl ⟨by rfl, ?_⟩) ?_
 rotate_left
 ·(intro w5 hw5; obtain ⟨hb1_, hb2_, hb3_⟩ := hw5; have q1 := hb1_.cell; have q2 := hb2_.cell; have q3 := hb3_.cell; go_simp; (try with_reducible rfl))
 (try simp only [Act.put, ma, mb, mc, md, me, mf])
 have n1 := G1.1.ne_ bn1 (by decide)
 have n2 := G1.2.1.ne_ bn1 (by decide)
 have n3 := G1.2.2.ne_ bn1 (by decide)
 have G2 : Blk (w1.setCell ⟨gn, 1, none⟩ (.slice p' (putL JobD.name s.jobs q.job).length c')) w.heap.size 67 #[.pointer (some ⟨gw, 0, none⟩)] ∧ Blk (w1.setCell ⟨gn, 1, none⟩ (.slice p' (putL JobD.name s.jobs q.job).length c')) gw 70 #[.pointer (some ⟨gn, 0, none⟩), .int .i64 now] ∧ Blk (w1.setCell ⟨gn, 1, none⟩ (.slice p' (putL JobD.name s.jobs q.job).length c')) (w.heap.size + 1) 43 #[.int .i64 q.kind, .string q.job.name, .int .i64 q.job.prio, .int .i64 q.job.need, .int .i64 q.job.tries, .string q.job.tag, .string q.node.name, .int .i64 q.node.room, .string q.node.zone, .string q.lease.job, .string q.lease.node, .int .i64 q.lease.till, .string q.name, .int .i64 q.n] := ⟨G1.1.far (p := ⟨gn, 1, none⟩) n1 _, G1.2.1.far (p := ⟨gn, 1, none⟩) n2 _, G1.2.2.far (p := ⟨gn, 1, none⟩) n3 _⟩
 refine tr 16 rfl (fun K hK => ?_)
 go_simp
 refine hK.out _ _ ?_ (fun hHeld => ?_)
 ·exact G2
 clear hK K
 (try simp only [Act.put, ma, mb, mc, md, me, mf])
 refine wpAnyH_done (by kernel_rfl) ?_ _
 have hTc := Tch.after ((Below.refl _ w0).drew) hTc
 have hM2 := hM0.setJ hTc hO
 have hK2 := hK0.trans ((Kp.tchJ hTc).trans (Kp.cell bn1 (by simp) 1 (.slice p' (putL JobD.name s.jobs q.job).length c')))
 have hB2 : Below base w (w1.setCell ⟨gn, 1, none⟩ (.slice p' (putL JobD.name s.jobs q.job).length c')) := (hTc.low hB0 hbw0).setCell (p := ⟨gn, 1, none⟩) hM0.hn _
 have hS2 : w.heap.size ≤ (w1.setCell ⟨gn, 1, none⟩ (.slice p' (putL JobD.name s.jobs q.job).length c')).heap.size := by have := tch_size hTc; simp; omega
 generalize w1.setCell _ _ = w2 at *
 have hC := stCheck_any { s with jobs := putL JobD.name s.jobs q.job } p' q2 q3 c' d2 d3 w2 hM2.own.m HZ.out (HT.out w2 hB2)
 have bn2 : Blk w2 gn 26 #[.int .i64 s.rev, .slice p' (putL JobD.name s.jobs q.job).length c', .slice q2 s.nodes.length d2, .slice q3 s.leases.length d3] := hM2.bn
 have z0 : w2.cell? ⟨w.heap.size, 0, none⟩ = some (.pointer (some ⟨gw, 0, none⟩)) := G2.1.cell 0
 have z1 : w2.cell? ⟨gw, 0, none⟩ = some (.pointer (some ⟨gn, 0, none⟩)) := G2.2.1.cell 0
 have HC := Lib.hid hC
 have HM := Lib.hid hM2
 clear hC hM2 hM0 hTc hO bn1 G0 G1 n1 n2 n3 y0 y1 y2
 go_wp2_with (first | (refine wpList_load_blk_w (by rfl) _ _ rfl gn rfl _ _ bn2 _ Tryz.underlying26 rfl state_size ?_))
 refine HC.out.mono ?_
 rintro e w3 ⟨rfl, hb3⟩
 go_wp2_with fail
 go_ret
 refine ⟨p', q2, q3, c', d2, d3, ?_⟩
 rw [HD.out]
 exact ⟨rfl, HM.out.below hb3, hB2.trans (hb3.mono (Nat.le_trans hbw hS2)), hK2.trans (Kp.below hb3), Nat.le_trans hS2 hb3.size⟩
theorem do_putN (q : ReqD) (base gn gw : Nat) (q1 q2 q3 : Option Addr) (d1 d2 d3 : Nat) (s : St) (now : Int) (w : World) (hM : WorkM w base gn gw q1 q2 q3 d1 d2 d3 s now) (hbw : base ≤ w.heap.size) (F : Fine s) (hT : ∀ W, Below base w W → Tabs W) (hq : reqE q = 0) (hkind : q.kind = 2) :
  Calls Tryz.prog 24 #[.pointer (some ⟨gw, 0, none⟩), .agg #[.int .i64 q.kind, .string q.job.name, .int .i64 q.job.prio, .int .i64 q.job.need, .int .i64 q.job.tries, .string q.job.tag, .string q.node.name, .int .i64 q.node.room, .string q.node.zone, .string q.lease.job, .string q.lease.node, .int .i64 q.lease.till, .string q.name, .int .i64 q.n]] w fun e w' => DoPost w base gn gw (doW ⟨s, now⟩ q) e w' := by
 have hE : nodeE q.node = 0 := by have := (reqE_ok hq).2.2; unfold partE at this; simpa [hkind] using this
 have hD : doW ⟨s, now⟩ q = (⟨{ s with nodes := putL NodeD.name s.nodes q.node }, now⟩, checkE { s with nodes := putL NodeD.name s.nodes q.node }) := by unfold doW; simp [hkind]
 have hz := sz_putN F hE
 have HP := Lib.hid (fun (W : World) (c : Nat) (p : Option Addr) (hO : Own W base 34 3 p c (s.nodes.map rowN)) (hb : base ≤ W.heap.size) => putON_any s.nodes q.node base p c W hO hb F.sn (by have := F.nn; omega))
 have HD := Lib.hid hD
 have HZ := Lib.hid hz
 have HT := Lib.hid hT
 have hb0 : Below w.heap.size w ((w.alloc (.cells #[.pointer (some ⟨gw, 0, none⟩)] 67)).alloc (.cells #[.int .i64 q.kind, .string q.job.name, .int .i64 q.job.prio, .int .i64 q.job.need, .int .i64 q.job.tries, .string q.job.tag, .string q.node.name, .int .i64 q.node.room, .string q.node.zone, .string q.lease.job, .string q.lease.node, .int .i64 q.lease.till, .string q.name, .int .i64 q.n] 43)) := ((Below.refl _ _).alloc (Nat.le_refl _) _).alloc (by simp) _
 have hs1 : (w.alloc (.cells #[.pointer (some ⟨gw, 0, none⟩)] 67)).heap.size = w.heap.size + 1 := by simp
 have bb := (Blk.new w 67 #[.pointer (some ⟨gw, 0, none⟩)]).alloc (.cells #[.int .i64 q.kind, .string q.job.name, .int .i64 q.job.prio, .int .i64 q.job.need, .int .i64 q.job.tries, .string q.job.tag, .string q.node.name, .int .i64 q.node.room, .string q.node.zone, .string q.lease.job, .string q.lease.node, .int .i64 q.lease.till, .string q.name, .int .i64 q.n] 43)
 have bq : Blk ((w.alloc (.cells #[.pointer (some ⟨gw, 0, none⟩)] 67)).alloc (.cells #[.int .i64 q.kind, .string q.job.name, .int .i64 q.job.prio, .int .i64 q.job.need, .int .i64 q.job.tries, .string q.job.tag, .string q.node.name, .int .i64 q.node.room, .string q.node.zone, .string q.lease.job, .string q.lease.node, .int .i64 q.lease.till, .string q.name, .int .i64 q.n] 43)) (w.heap.size + 1) 43 #[.int .i64 q.kind, .string q.job.name, .int .i64 q.job.prio, .int .i64 q.job.need, .int .i64 q.job.tries, .string q.job.tag, .string q.node.name, .int .i64 q.node.room, .string q.node.zone, .string q.lease.job, .string q.lease.node, .int .i64 q.lease.till, .string q.name, .int .i64 q.n] := by have := Blk.new (w.alloc (.cells #[.pointer (some ⟨gw, 0, none⟩)] 67)) 43 #[.int .i64 q.kind, .string q.job.name, .int .i64 q.job.prio, .int .i64 q.job.need, .int .i64 q.job.tries, .string q.job.tag, .string q.node.name, .int .i64 q.node.room, .string q.node.zone, .string q.lease.job, .string q.lease.node, .int .i64 q.lease.till, .string q.name, .int .i64 q.n]; rwa [hs1] at this
 have hM0 := hM.below hb0
 have hbw0 := Nat.le_trans hbw hb0.size
 have hB0 : Below base w ((w.alloc (.cells #[.pointer (some ⟨gw, 0, none⟩)] 67)).alloc (.cells #[.int .i64 q.kind, .string q.job.name, .int .i64 q.job.prio, .int .i64 q.job.need, .int .i64 q.job.tries, .string q.job.tag, .string q.node.name, .int .i64 q.node.room, .string q.node.zone, .string q.lease.job, .string q.lease.node, .int .i64 q.lease.till, .string q.name, .int .i64 q.n] 43)) := hb0.mono hbw
 have hK0 := Kp.below hb0
 have hS0 := hb0.size
 clear hM hb0 hs1
 have kk1 : (q.kind == (1 : Int)) = false := by rw [hkind]; rfl
 have kk2 : (q.kind == (2 : Int)) = true := by rw [hkind]; rfl
 clear hkind hq hE hD hz hT F
 go_enter Tryz.func24, Tryz.ntmps24
 go_upto_region 1 with fail
 generalize (w.alloc _).alloc _ = w0 at *
 have x0 : w0.cell? ⟨w.heap.size + 1, 0, none⟩ = some (.int .i64 q.kind) := bq.cell 0
 go_upto_region 7 with fail
 clear x0
 have G0 : Blk w0.drew w.heap.size 67 #[.pointer (some ⟨gw, 0, none⟩)] ∧ Blk w0.drew gw 70 #[.pointer (some ⟨gn, 0, none⟩), .int .i64 now] ∧ Blk w0.drew (w.heap.size + 1) 43 #[.int .i64 q.kind, .string q.job.name, .int .i64 q.job.prio, .int .i64 q.job.need, .int .i64 q.job.tries, .string q.job.tag, .string q.node.name, .int .i64 q.node.room, .string q.node.zone, .string q.lease.job, .string q.lease.node, .int .i64 q.lease.till, .string q.name, .int .i64 q.n] := ⟨bb.drew, hM0.bw.drew, bq.drew⟩
 have y0 : w0.drew.cell? ⟨gn, 2, none⟩ = some (.slice q2 s.nodes.length d2) := hM0.bn.cell 2
 refine wp_region_held_drew (S := fun W => Blk W w.heap.size 67 #[.pointer (some ⟨gw, 0, none⟩)] ∧ Blk W gw 70 #[.pointer (some ⟨gn, 0, none⟩), .int .i64 now] ∧ Blk W (w.heap.size + 1) 43 #[.int .i64 q.kind, .string q.job.name, .int .i64 q.job.prio, .int .i64 q.job.need, .int .i64 q.job.tries, .string q.job.tag, .string q.node.name, .int .i64 q.node.room, .string q.node.zone, .string q.lease.job, .string q.lease.node, .int .i64 q.lease.till, .string q.name, .int .i64 q.n]) (by kernel_rfl) G0 (fun hHeld => ?_)
 refine tk 0 (v := ?_) rfl (Or.inl ⟨by rfl, ?_⟩) ?_
 rotate_left
 ·(intro w5 hw5; obtain ⟨hb1_, hb2_, hb3_⟩ := hw5; have q1 := hb1_.cell; have q2 := hb2_.cell; have q3 := hb3_.cell; go_simp; (try with_reducible rfl))
 (try simp only [Act.put, ma, mb, mc, md, me, mf])
 refine tk 1 (v := ?_) rfl (Or.inl ⟨by rfl, ?_⟩) ?_
 rotate_left
 ·(intro w5 hw5; obtain ⟨hb1_, hb2_, hb3_⟩ := hw5; have q1 := hb1_.cell; have q2 := hb2_.cell; have q3 := hb3_.cell; go_simp; (try with_reducible rfl))
 (try simp only [Act.put, ma, mb, mc, md, me, mf])
 refine tk 2 (v := ?_) rfl (Or.inl ⟨by rfl, ?_⟩) ?_
 rotate_left
 ·(intro w5 hw5; obtain ⟨hb1_, hb2_, hb3_⟩ := hw5; have q1 := hb1_.cell; have q2 := hb2_.cell; have q3 := hb3_.cell; go_simp; (try with_reducible rfl))
 (try simp only [Act.put, ma, mb, mc, md, me, mf])
 refine tk 3 (v := ?_) rfl (Or.inl ⟨by rfl, ?_⟩) ?_
 rotate_left
 ·(intro w5 hw5; obtain ⟨hb1_, hb2_, hb3_⟩ := hw5; have q1 := hb1_.cell; have q2 := hb2_.cell; have q3 := hb3_.cell; go_simp; (try with_reducible rfl))
 (try simp only [Act.put, ma, mb, mc, md, me, mf])
 refine tk 4 (v := ?_) rfl (Or.inl ⟨by rfl, ?_⟩) ?_
 rotate_left
 ·(intro w5 hw5; obtain ⟨hb1_, hb2_, hb3_⟩ := hw5; have q1 := hb1_.cell; have q2 := hb2_.cell; have q3 := hb3_.cell; go_simp; (try with_reducible rfl))
 (try simp only [Act.put, ma, mb, mc, md, me, mf])
 refine tk 5 (v := ?_) rfl (Or.inl ⟨by rfl, ?_⟩) ?_
 rotate_left
 ·(intro w5 hw5; obtain ⟨hb1_, hb2_, hb3_⟩ := hw5; have q1 := hb1_.cell; have q2 := hb2_.cell; have q3 := hb3_.cell; go_simp; (try with_reducible rfl))
 (try simp only [Act.put, ma, mb, mc, md, me, mf])
 refine tk 6 (v := ?_) rfl (Or.inl ⟨by rfl, ?_⟩) ?_
 rotate_left
 ·(intro w5 hw5; obtain ⟨hb1_, hb2_, hb3_⟩ := hw5; have q1 := hb1_.cell; have q2 := hb2_.cell; have q3 := hb3_.cell; go_simp; (try with_reducible rfl))
 (try simp only [Act.put, ma, mb, mc, md, me, mf])
 refine tk 7 (v := ?_) rfl (Or.inl ⟨by rfl, ?_⟩) ?_
 rotate_left
 ·(intro w5 hw5; obtain ⟨hb1_, hb2_, hb3_⟩ := hw5; have q1 := hb1_.cell; have q2 := hb2_.cell; have q3 := hb3_.cell; go_simp; (try with_reducible rfl))
 (try simp only [Act.put, ma, mb, mc, md, me, mf])
 refine tk 8 (v := ?_) rfl (Or.inl ⟨by rfl, ?_⟩) ?_
 rotate_left
 ·(intro w5 hw5; obtain ⟨hb1_, hb2_, hb3_⟩ := hw5; have q1 := hb1_.cell; have q2 := hb2_.cell; have q3 := hb3_.cell; go_simp; (try with_reducible rfl))
 (try simp only [Act.put, ma, mb, mc, md, me, mf])
 refine tk 9 (v := ?_) rfl (Or.inl ⟨by rfl, ?_⟩) ?_
 rotate_left
 ·(intro w5 hw5; obtain ⟨hb1_, hb2_, hb3_⟩ := hw5; have q1 := hb1_.cell; have q2 := hb2_.cell; have q3 := hb3_.cell; go_simp; (try with_reducible rfl))
 (try simp only [Act.put, ma, mb, mc, md, me, mf])
 refine tk 11 (v := ?_) rfl (Or.inl ⟨by rfl, ?_⟩) ?_
 rotate_left
 ·(intro w5 hw5; obtain ⟨hb1_, hb2_, hb3_⟩ := hw5; have q1 := hb1_.cell; have q2 := hb2_.cell; have q3 := hb3_.cell; go_simp; (try with_reducible rfl))
 (try simp only [Act.put, ma, mb, mc, md, me, mf])
 refine tk 12 (v := ?_) rfl (Or.inl ⟨by rfl, ?_⟩) ?_
 rotate_left
 ·(intro w5 hw5; obtain ⟨hb1_, hb2_, hb3_⟩ := hw5; have q1 := hb1_.cell; have q2 := hb2_.cell; have q3 := hb3_.cell; go_simp; (try with_reducible rfl))
 (try simp only [Act.put, ma, mb, mc, md, me, mf])
 refine tr 10 rfl (fun K hK => ?_)
 go_simp
 refine hK.out _ _ ?_ (fun hHeld => ?_)
 ·exact G0
 clear hK K
 (try simp only [Act.put, ma, mb, mc, md, me, mf])
 refine tr 13 rfl (fun K hK => ?_)
 go_simp
 refine (HP.out w0.drew d2 q2 (hM0.below ((Below.refl _ w0).drew)).own.n hbw0).mono ?_
 rintro e w1 ⟨p', c', rfl, hO, hTc, _⟩
 have G1 : Blk w1 w.heap.size 67 #[.pointer (some ⟨gw, 0, none⟩)] ∧ Blk w1 gw 70 #[.pointer (some ⟨gn, 0, none⟩), .int .i64 now] ∧ Blk w1 (w.heap.size + 1) 43 #[.int .i64 q.kind, .string q.job.name, .int .i64 q.job.prio, .int .i64 q.job.need, .int .i64 q.job.tries, .string q.job.tag, .string q.node.name, .int .i64 q.node.room, .string q.node.zone, .string q.lease.job, .string q.lease.node, .int .i64 q.lease.till, .string q.name, .int .i64 q.n] := ⟨hTc.blk G0.1 (by decide), hTc.blk G0.2.1 (by decide), hTc.blk G0.2.2 (by decide)⟩
 have bn1 := hTc.blk hM0.bn.drew (by decide)
 have y1 : w1.cell? ⟨gn, 2, none⟩ = some (.slice q2 s.nodes.length d2) := bn1.cell 2
 have y2 : w1.frozen? ⟨gn, 2, none⟩ = false := bn1.frozen 2
 refine hK.out _ _ ?_ (fun hHeld => ?_)
 ·exact G1
 clear hK K
 (try simp only [Act.put, ma, mb, mc, md, me, mf])
 refine tk 14 (v := ?_) rfl (Or.inl ⟨by rfl, ?_⟩) ?_
 rotate_left
 ·(intro w5 hw5; obtain ⟨hb1_, hb2_, hb3_⟩ := hw5; have q1 := hb1_.cell; have q2 := hb2_.cell; have q3 := hb3_.cell; go_simp; (try with_reducible rfl))
 (try simp only [Act.put, ma, mb, mc, md, me, mf])
 refine tk 15 (v := ?_) rfl (Or.inl ⟨by rfl, ?_⟩) ?_
 rotate_left
 ·(intro w5 hw5; obtain ⟨hb1_, hb2_, hb3_⟩ := hw5; have q1 := hb1_.cell; have q2 := hb2_.cell; have q3 := hb3_.cell; go_simp; (try with_reducible rfl))
 (try simp only [Act.put, ma, mb, mc, md, me, mf])
 have n1 := G1.1.ne_ bn1 (by decide)
 have n2 := G1.2.1.ne_ bn1 (by decide)
 have n3 := G1.2.2.ne_ bn1 (by decide)
 have G2 : Blk (w1.setCell ⟨gn, 2, none⟩ (.slice p' (putL NodeD.name s.nodes q.node).length c')) w.heap.size 67 #[.pointer (some ⟨gw, 0, none⟩)] ∧ Blk (w1.setCell ⟨gn, 2, none⟩ (.slice p' (putL NodeD.name s.nodes q.node).length c')) gw 70 #[.pointer (some ⟨gn, 0, none⟩), .int .i64 now] ∧ Blk (w1.setCell ⟨gn, 2, none⟩ (.slice p' (putL NodeD.name s.nodes q.node).length c')) (w.heap.size + 1) 43 #[.int .i64 q.kind, .string q.job.name, .int .i64 q.job.prio, .int .i64 q.job.need, .int .i64 q.job.tries, .string q.job.tag, .string q.node.name, .int .i64 q.node.room, .string q.node.zone, .string q.lease.job, .string q.lease.node, .int .i64 q.lease.till, .string q.name, .int .i64 q.n] := ⟨G1.1.far (p := ⟨gn, 2, none⟩) n1 _, G1.2.1.far (p := ⟨gn, 2, none⟩) n2 _, G1.2.2.far (p := ⟨gn, 2, none⟩) n3 _⟩
 refine tr 16 rfl (fun K hK => ?_)
 go_simp
 refine hK.out _ _ ?_ (fun hHeld => ?_)
 ·exact G2
 clear hK K
 (try simp only [Act.put, ma, mb, mc, md, me, mf])
 refine wpAnyH_done (by kernel_rfl) ?_ _
 have hTc := Tch.after ((Below.refl _ w0).drew) hTc
 have hM2 := hM0.setN hTc hO
 have hK2 := hK0.trans ((Kp.tchN hTc).trans (Kp.cell bn1 (by simp) 2 (.slice p' (putL NodeD.name s.nodes q.node).length c')))
 have hB2 : Below base w (w1.setCell ⟨gn, 2, none⟩ (.slice p' (putL NodeD.name s.nodes q.node).length c')) := (hTc.low hB0 hbw0).setCell (p := ⟨gn, 2, none⟩) hM0.hn _
 have hS2 : w.heap.size ≤ (w1.setCell ⟨gn, 2, none⟩ (.slice p' (putL NodeD.name s.nodes q.node).length c')).heap.size := by have := tch_size hTc; simp; omega
 generalize w1.setCell _ _ = w2 at *
 have hC := stCheck_any { s with nodes := putL NodeD.name s.nodes q.node } q1 p' q3 d1 c' d3 w2 hM2.own.m HZ.out (HT.out w2 hB2)
 have bn2 : Blk w2 gn 26 #[.int .i64 s.rev, .slice q1 s.jobs.length d1, .slice p' (putL NodeD.name s.nodes q.node).length c', .slice q3 s.leases.length d3] := hM2.bn
 have z0 : w2.cell? ⟨w.heap.size, 0, none⟩ = some (.pointer (some ⟨gw, 0, none⟩)) := G2.1.cell 0
 have z1 : w2.cell? ⟨gw, 0, none⟩ = some (.pointer (some ⟨gn, 0, none⟩)) := G2.2.1.cell 0
 have HC := Lib.hid hC
 have HM := Lib.hid hM2
 clear hC hM2 hM0 hTc hO bn1 G0 G1 n1 n2 n3 y0 y1 y2
 go_wp2_with (first | (refine wpList_load_blk_w (by rfl) _ _ rfl gn rfl _ _ bn2 _ Tryz.underlying26 rfl state_size ?_))
 refine HC.out.mono ?_
 rintro e w3 ⟨rfl, hb3⟩
 go_wp2_with fail
 go_ret
 refine ⟨q1, p', q3, d1, c', d3, ?_⟩
 rw [HD.out]
 exact ⟨rfl, HM.out.below hb3, hB2.trans (hb3.mono (Nat.le_trans hbw hS2)), hK2.trans (Kp.below hb3), Nat.le_trans hS2 hb3.size⟩
end Go.Proofs.YtaioadbenigdpaaGreatDoor
