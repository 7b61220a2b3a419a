/-
  Several texts in one: DoDel.
-/
import Derived.Test.YtaioadbenigdpaaGreatDoorPkHeld
import Derived.Test.YtaioadbenigdpaaGreatDoorPkSvA
import Derived.Test.YtaioadbenigdpaaGreatDoorPkPutJ
import Derived.Test.YtaioadbenigdpaaGreatDoorPkPutN
import Derived.Test.YtaioadbenigdpaaGreatDoorPkPutL
import Derived.Test.YtaioadbenigdpaaGreatDoorPkWith
import Derived.Test.YtaioadbenigdpaaGreatDoorPkStateB
set_option linter.unusedVariables false
set_option linter.unusedSimpArgs false
set_option maxHeartbeats 16000000
set_option maxRecDepth 100000
namespace Go.Proofs.YtaioadbenigdpaaGreatDoor
open Go.RowKit
theorem do_delJ (q : ReqD) (base gn gw : Nat) (q1 q2 q3 : Option Addr) (d1 d2 d3 : Nat) (s : St) (now : Int) (w : World) (hM : WorkM w base gn gw q1 q2 q3 d1 d2 d3 s now) (hbw : base ≤ w.heap.size) (F : Fine s) (hT : ∀ W, Below base w W → Tabs W) (hq : reqE q = 0) (hkind : q.kind = 3) :
  Calls Tryz.prog 24 #[.pointer (some ⟨gw, 0, none⟩), .agg #[.int .i64 q.kind, .string q.job.name, .int .i64 q.job.prio, .int .i64 q.job.need, .int .i64 q.job.tries, .string q.job.tag, .string q.node.name, .int .i64 q.node.room, .string q.node.zone, .string q.lease.job, .string q.lease.node, .int .i64 q.lease.till, .string q.name, .int .i64 q.n]] w fun e w' => DoPost w base gn gw (doW ⟨s, now⟩ q) e w' := by
 have hD : doW ⟨s, now⟩ q = (⟨{ s with jobs := takeL JobD.name s.jobs q.name, leases := s.leases.filter fun l => !decide (l.job = q.name) }, now⟩, if hasL JobD.name s.jobs q.name = true then 0 else 6) := by unfold doW; simp [hkind]
 have HP := Lib.hid (fun (W : World) (c : Nat) (p : Option Addr) (hO : Own W base 31 5 p c (s.jobs.map rowJ)) => takeOJ_any s.jobs q.name base p c W hO F.sj (by have := F.nj; omega))
 have HD := Lib.hid hD
 have hll := F.nl
 generalize hhs : hasL JobD.name s.jobs q.name = hs at *
 have hb0 : Below w.heap.size w ((w.alloc (.cells #[.pointer (some ⟨gw, 0, none⟩)] 67)).alloc (.cells #[.int .i64 q.kind, .string q.job.name, .int .i64 q.job.prio, .int .i64 q.job.need, .int .i64 q.job.tries, .string q.job.tag, .string q.node.name, .int .i64 q.node.room, .string q.node.zone, .string q.lease.job, .string q.lease.node, .int .i64 q.lease.till, .string q.name, .int .i64 q.n] 43)) := ((Below.refl _ _).alloc (Nat.le_refl _) _).alloc (by simp) _
 have hs1 : (w.alloc (.cells #[.pointer (some ⟨gw, 0, none⟩)] 67)).heap.size = w.heap.size + 1 := by simp
 have bb := (Blk.new w 67 #[.pointer (some ⟨gw, 0, none⟩)]).alloc (.cells #[.int .i64 q.kind, .string q.job.name, .int .i64 q.job.prio, .int .i64 q.job.need, .int .i64 q.job.tries, .string q.job.tag, .string q.node.name, .int .i64 q.node.room, .string q.node.zone, .string q.lease.job, .string q.lease.node, .int .i64 q.lease.till, .string q.name, .int .i64 q.n] 43)
 have bq : Blk ((w.alloc (.cells #[.pointer (some ⟨gw, 0, none⟩)] 67)).alloc (.cells #[.int .i64 q.kind, .string q.job.name, .int .i64 q.job.prio, .int .i64 q.job.need, .int .i64 q.job.tries, .string q.job.tag, .string q.node.name, .int .i64 q.node.room, .string q.node.zone, .string q.lease.job, .string q.lease.node, .int .i64 q.lease.till, .string q.name, .int .i64 q.n] 43)) (w.heap.size + 1) 43 #[.int .i64 q.kind, .string q.job.name, .int .i64 q.job.prio, .int .i64 q.job.need, .int .i64 q.job.tries, .string q.job.tag, .string q.node.name, .int .i64 q.node.room, .string q.node.zone, .string q.lease.job, .string q.lease.node, .int .i64 q.lease.till, .string q.name, .int .i64 q.n] := by have := Blk.new (w.alloc (.cells #[.pointer (some ⟨gw, 0, none⟩)] 67)) 43 #[.int .i64 q.kind, .string q.job.name, .int .i64 q.job.prio, .int .i64 q.job.need, .int .i64 q.job.tries, .string q.job.tag, .string q.node.name, .int .i64 q.node.room, .string q.node.zone, .string q.lease.job, .string q.lease.node, .int .i64 q.lease.till, .string q.name, .int .i64 q.n]; rwa [hs1] at this
 have hM0 := hM.below hb0
 have hbw0 := Nat.le_trans hbw hb0.size
 have hB0 : Below base w ((w.alloc (.cells #[.pointer (some ⟨gw, 0, none⟩)] 67)).alloc (.cells #[.int .i64 q.kind, .string q.job.name, .int .i64 q.job.prio, .int .i64 q.job.need, .int .i64 q.job.tries, .string q.job.tag, .string q.node.name, .int .i64 q.node.room, .string q.node.zone, .string q.lease.job, .string q.lease.node, .int .i64 q.lease.till, .string q.name, .int .i64 q.n] 43)) := hb0.mono hbw
 have hK0 := Kp.below hb0
 have hS0 := hb0.size
 clear hM hb0 hs1
 have kk1 : (q.kind == (1 : Int)) = false := by rw [hkind]; rfl
 have kk2 : (q.kind == (2 : Int)) = false := by rw [hkind]; rfl
 have kk3 : (q.kind == (3 : Int)) = true := by rw [hkind]; rfl
 clear hkind hq hD hT F hhs
 go_enter Tryz.func24, Tryz.ntmps24
 go_upto_region 1 with fail
 generalize (w.alloc _).alloc _ = w0 at *
 have x0 : w0.cell? ⟨w.heap.size + 1, 0, none⟩ = some (.int .i64 q.kind) := bq.cell 0
 go_upto_region 10 with fail
 clear x0
 have G0 : Blk w0.drew w.heap.size 67 #[.pointer (some ⟨gw, 0, none⟩)] ∧ Blk w0.drew gw 70 #[.pointer (some ⟨gn, 0, none⟩), .int .i64 now] ∧ Blk w0.drew (w.heap.size + 1) 43 #[.int .i64 q.kind, .string q.job.name, .int .i64 q.job.prio, .int .i64 q.job.need, .int .i64 q.job.tries, .string q.job.tag, .string q.node.name, .int .i64 q.node.room, .string q.node.zone, .string q.lease.job, .string q.lease.node, .int .i64 q.lease.till, .string q.name, .int .i64 q.n] := ⟨bb.drew, hM0.bw.drew, bq.drew⟩
 have y0 : w0.drew.cell? ⟨gn, 1, none⟩ = some (.slice q1 s.jobs.length d1) := hM0.bn.cell 1
 refine wp_region_held_drew (S := fun W => Blk W w.heap.size 67 #[.pointer (some ⟨gw, 0, none⟩)] ∧ Blk W gw 70 #[.pointer (some ⟨gn, 0, none⟩), .int .i64 now] ∧ Blk W (w.heap.size + 1) 43 #[.int .i64 q.kind, .string q.job.name, .int .i64 q.job.prio, .int .i64 q.job.need, .int .i64 q.job.tries, .string q.job.tag, .string q.node.name, .int .i64 q.node.room, .string q.node.zone, .string q.lease.job, .string q.lease.node, .int .i64 q.lease.till, .string q.name, .int .i64 q.n]) (by kernel_rfl) G0 (fun hHeld => ?_)
 refine tk 0 (v := ?_) rfl (Or.inl ⟨by rfl, ?_⟩) ?_
 rotate_left
 ·(intro w5 hw5; obtain ⟨hb1_, hb2_, hb3_⟩ := hw5; have q1 := hb1_.cell; have q2 := hb2_.cell; have q3 := hb3_.cell; go_simp; (try with_reducible rfl))
 (try simp only [Act.put, ma, mb, mc, md, me, mf])
 refine tk 1 (v := ?_) rfl (Or.inl ⟨by rfl, ?_⟩) ?_
 rotate_left
 ·(intro w5 hw5; obtain ⟨hb1_, hb2_, hb3_⟩ := hw5; have q1 := hb1_.cell; have q2 := hb2_.cell; have q3 := hb3_.cell; go_simp; (try with_reducible rfl))
 (try simp only [Act.put, ma, mb, mc, md, me, mf])
 refine tk 2 (v := ?_) rfl (Or.inl ⟨by rfl, ?_⟩) ?_
 rotate_left
 ·(intro w5 hw5; obtain ⟨hb1_, hb2_, hb3_⟩ := hw5; have q1 := hb1_.cell; have q2 := hb2_.cell; have q3 := hb3_.cell; go_simp; (try with_reducible rfl))
 (try simp only [Act.put, ma, mb, mc, md, me, mf])
 refine tk 3 (v := ?_) rfl (Or.inl ⟨by rfl, ?_⟩) ?_
 rotate_left
 ·(intro w5 hw5; obtain ⟨hb1_, hb2_, hb3_⟩ := hw5; have q1 := hb1_.cell; have q2 := hb2_.cell; have q3 := hb3_.cell; go_simp; (try with_reducible rfl))
 (try simp only [Act.put, ma, mb, mc, md, me, mf])
 refine tk 4 (v := ?_) rfl (Or.inl ⟨by rfl, ?_⟩) ?_
 rotate_left
 ·(intro w5 hw5; obtain ⟨hb1_, hb2_, hb3_⟩ := hw5; have q1 := hb1_.cell; have q2 := hb2_.cell; have q3 := hb3_.cell; go_simp; (try with_reducible rfl))
 (try simp only [Act.put, ma, mb, mc, md, me, mf])
 refine tk 5 (v := ?_) rfl (Or.inl ⟨by rfl, ?_⟩) ?_
 rotate_left
 ·(intro w5 hw5; obtain ⟨hb1_, hb2_, hb3_⟩ := hw5; have q1 := hb1_.cell; have q2 := hb2_.cell; have q3 := hb3_.cell; go_simp; (try with_reducible rfl))
 (try simp only [Act.put, ma, mb, mc, md, me, mf])
 refine tk 6 (v := ?_) rfl (Or.inl ⟨by rfl, ?_⟩) ?_
 rotate_left
 ·(intro w5 hw5; obtain ⟨hb1_, hb2_, hb3_⟩ := hw5; have q1 := hb1_.cell; have q2 := hb2_.cell; have q3 := hb3_.cell; go_simp; (try with_reducible rfl))
 (try simp only [Act.put, ma, mb, mc, md, me, mf])
 refine tk 7 (v := ?_) rfl (Or.inl ⟨by rfl, ?_⟩) ?_
 rotate_left
 ·(intro w5 hw5; obtain ⟨hb1_, hb2_, hb3_⟩ := hw5; have q1 := hb1_.cell; have q2 := hb2_.cell; have q3 := hb3_.cell; go_simp; (try with_reducible rfl))
 (try simp only [Act.put, ma, mb, mc, md, me, mf])
 refine tk 8 (v := ?_) rfl (Or.inl ⟨by rfl, ?_⟩) ?_
 rotate_left
 ·(intro w5 hw5; obtain ⟨hb1_, hb2_, hb3_⟩ := hw5; have q1 := hb1_.cell; have q2 := hb2_.cell; have q3 := hb3_.cell; go_simp; (try with_reducible rfl))
 (try simp only [Act.put, ma, mb, mc, md, me, mf])
 refine tk 9 (v := ?_) rfl (Or.inl ⟨by rfl, ?_⟩) ?_
 rotate_left
 ·(intro w5 hw5; obtain ⟨hb1_, hb2_, hb3_⟩ := hw5; have q1 := hb1_.cell; have q2 := hb2_.cell; have q3 := hb3_.cell; go_simp; (try with_reducible rfl))
 (try simp only [Act.put, ma, mb, mc, md, me, mf])
 refine tk 11 (v := ?_) rfl (Or.inl ⟨by rfl, ?_⟩) ?_
 rotate_left
 ·(intro w5 hw5; obtain ⟨hb1_, hb2_, hb3_⟩ := hw5; have q1 := hb1_.cell; have q2 := hb2_.cell; have q3 := hb3_.cell; go_simp; (try with_reducible rfl))
 (try simp only [Act.put, ma, mb, mc, md, me, mf])
 refine tk 12 (v := ?_) rfl (Or.inl ⟨by rfl, ?_⟩) ?_
 rotate_left
 ·(intro w5 hw5; obtain ⟨hb1_, hb2_, hb3_⟩ := hw5; have q1 := hb1_.cell; have q2 := hb2_.cell; have q3 := hb3_.cell; go_simp; (try with_reducible rfl))
 (try simp only [Act.put, ma, mb, mc, md, me, mf])
 refine tr 10 rfl (fun K hK => ?_)
 go_simp
 refine hK.out _ _ ?_ (fun hHeld => ?_)
 ·exact G0
 clear hK K
 (try simp only [Act.put, ma, mb, mc, md, me, mf])
 refine tr 13 rfl (fun K hK => ?_)
 go_simp
 refine (HP.out w0.drew d1 q1 (hM0.below ((Below.refl _ w0).drew)).own.j).mono ?_
 rintro e w1 ⟨p', c', rfl, hO, hTc⟩
 have G1 : Blk w1 w.heap.size 67 #[.pointer (some ⟨gw, 0, none⟩)] ∧ Blk w1 gw 70 #[.pointer (some ⟨gn, 0, none⟩), .int .i64 now] ∧ Blk w1 (w.heap.size + 1) 43 #[.int .i64 q.kind, .string q.job.name, .int .i64 q.job.prio, .int .i64 q.job.need, .int .i64 q.job.tries, .string q.job.tag, .string q.node.name, .int .i64 q.node.room, .string q.node.zone, .string q.lease.job, .string q.lease.node, .int .i64 q.lease.till, .string q.name, .int .i64 q.n] := ⟨hTc.blk G0.1 (by decide), hTc.blk G0.2.1 (by decide), hTc.blk G0.2.2 (by decide)⟩
 have bn1 := hTc.blk hM0.bn.drew (by decide)
 have y1 : w1.cell? ⟨gn, 1, none⟩ = some (.slice q1 s.jobs.length d1) := bn1.cell 1
 have y2 : w1.frozen? ⟨gn, 1, none⟩ = false := bn1.frozen 1
 refine hK.out _ _ ?_ (fun hHeld => ?_)
 ·exact G1
 clear hK K
 (try simp only [Act.put, ma, mb, mc, md, me, mf])
 refine tk 14 (v := ?_) rfl (Or.inl ⟨by rfl, ?_⟩) ?_
 rotate_left
 ·(intro w5 hw5; obtain ⟨hb1_, hb2_, hb3_⟩ := hw5; have q1 := hb1_.cell; have q2 := hb2_.cell; have q3 := hb3_.cell; go_simp; (try with_reducible rfl))
 (try simp only [Act.put, ma, mb, mc, md, me, mf])
 refine tk 15 (v := ?_) rfl (Or.inl ⟨by rfl, ?_⟩) ?_
 rotate_left
 ·(intro w5 hw5; obtain ⟨hb1_, hb2_, hb3_⟩ := hw5; have q1 := hb1_.cell; have q2 := hb2_.cell; have q3 := hb3_.cell; go_simp; (try with_reducible rfl))
 (try simp only [Act.put, ma, mb, mc, md, me, mf])
 refine tk 16 (v := ?_) rfl (Or.inl ⟨by rfl, ?_⟩) ?_
 rotate_left
 ·(intro w5 hw5; obtain ⟨hb1_, hb2_, hb3_⟩ := hw5; have q1 := hb1_.cell; have q2 := hb2_.cell; have q3 := hb3_.cell; go_simp; (try with_reducible rfl))
 (try simp only [Act.put, ma, mb, mc, md, me, mf])
 refine tk 17 (v := ?_) rfl (Or.inl ⟨by rfl, ?_⟩) ?_
 rotate_left
 ·(intro w5 hw5; obtain ⟨hb1_, hb2_, hb3_⟩ := hw5; have q1 := hb1_.cell; have q2 := hb2_.cell; have q3 := hb3_.cell; go_simp; (try with_reducible rfl))
 (try simp only [Act.put, ma, mb, mc, md, me, mf])
 refine tk 18 (v := ?_) rfl (Or.inl ⟨by rfl, ?_⟩) ?_
 rotate_left
 ·(intro w5 hw5; obtain ⟨hb1_, hb2_, hb3_⟩ := hw5; have q1 := hb1_.cell; have q2 := hb2_.cell; have q3 := hb3_.cell; go_simp; (try with_reducible rfl))
 (try simp only [Act.put, ma, mb, mc, md, me, mf])
 have n1 := G1.1.ne_ bn1 (by decide)
 have n2 := G1.2.1.ne_ bn1 (by decide)
 have n3 := G1.2.2.ne_ bn1 (by decide)
 have G2 : Blk (w1.setCell ⟨gn, 1, none⟩ (.slice p' (takeL JobD.name s.jobs q.name).length c')) w.heap.size 67 #[.pointer (some ⟨gw, 0, none⟩)] ∧ Blk (w1.setCell ⟨gn, 1, none⟩ (.slice p' (takeL JobD.name s.jobs q.name).length c')) gw 70 #[.pointer (some ⟨gn, 0, none⟩), .int .i64 now] ∧ Blk (w1.setCell ⟨gn, 1, none⟩ (.slice p' (takeL JobD.name s.jobs q.name).length c')) (w.heap.size + 1) 43 #[.int .i64 q.kind, .string q.job.name, .int .i64 q.job.prio, .int .i64 q.job.need, .int .i64 q.job.tries, .string q.job.tag, .string q.node.name, .int .i64 q.node.room, .string q.node.zone, .string q.lease.job, .string q.lease.node, .int .i64 q.lease.till, .string q.name, .int .i64 q.n] := ⟨G1.1.far (p := ⟨gn, 1, none⟩) n1 _, G1.2.1.far (p := ⟨gn, 1, none⟩) n2 _, G1.2.2.far (p := ⟨gn, 1, none⟩) n3 _⟩
 refine tr 19 rfl (fun K hK => ?_)
 go_simp
 refine hK.out _ _ ?_ (fun hHeld => ?_)
 ·exact G2
 clear hK K
 (try simp only [Act.put, ma, mb, mc, md, me, mf])
 refine tk 20 (v := ?_) rfl (Or.inl ⟨by rfl, ?_⟩) ?_
 rotate_left
 ·(intro w5 hw5; obtain ⟨hb1_, hb2_, hb3_⟩ := hw5; have q1 := hb1_.cell; have q2 := hb2_.cell; have q3 := hb3_.cell; go_simp; (try with_reducible rfl))
 (try simp only [Act.put, ma, mb, mc, md, me, mf])
 refine wpAnyH_done (by kernel_rfl) ?_ _
 have hTc := Tch.after ((Below.refl _ w0).drew) hTc
 have hM2 := hM0.setJ hTc hO
 have hK2 := hK0.trans ((Kp.tchJ hTc).trans (Kp.cell bn1 (by simp) 1 (.slice p' (takeL JobD.name s.jobs q.name).length c')))
 have hB2 : Below base w (w1.setCell ⟨gn, 1, none⟩ (.slice p' (takeL JobD.name s.jobs q.name).length c')) := (hTc.low hB0 hbw0).setCell (p := ⟨gn, 1, none⟩) hM0.hn _
 have hS2 : w.heap.size ≤ (w1.setCell ⟨gn, 1, none⟩ (.slice p' (takeL JobD.name s.jobs q.name).length c')).heap.size := by have := tch_size hTc; simp; omega
 generalize w1.setCell _ _ = w2 at *
 have hbw2 : base ≤ w2.heap.size := Nat.le_trans hbw hS2
 obtain ⟨bb2, bw2, bq2⟩ := G2
 clear hM0 hTc hO bn1 G0 G1 n1 n2 n3 y0 y1 y2 hHeld
 have hfn : FnOk Tryz.prog w2 44 #[.pointer (some ⟨w.heap.size + 1, 0, none⟩)] rowL (fun l => decide (l.job = q.name)) s.leases := ⟨fun args W => by kernel_rfl, fun x _ W hW => do1_any (w.heap.size + 1) x q.name W ((bq2.below hW bq2.lt).cell 12) (bq2.below hW bq2.lt).lt⟩
 have hfg : ∀ g cur, base ≤ g → Blk w2 g 37 cur → FnOkG Tryz.prog w2 g 44 #[.pointer (some ⟨w.heap.size + 1, 0, none⟩)] rowL (fun l => decide (l.job = q.name)) s.leases := fun g cur _ hb => ⟨fun args W => by kernel_rfl, fun x _ W hW => by
  have b3 := GrB.blk hW bq2 (bq2.ne_ hb (by decide))
  exact do1_any (w.heap.size + 1) x q.name W (b3.cell 12) b3.lt⟩
 have HW := Lib.hid (without_any _ _ _ base gn gw _ _ _ _ _ _ _ now w2 hM2 hbw2 (by show s.leases.length ≤ 1000; omega) hfn hfg)
 have z0 : w2.cell? ⟨w.heap.size, 0, none⟩ = some (.pointer (some ⟨gw, 0, none⟩)) := bb2.cell 0
 clear hM2 hfn hfg bb2 bw2 bq2
 go_wp2_with fail
 refine HW.out.mono ?_
 rintro e w3 ⟨rfl, q', d', hM3, hB3, hK3, hS3⟩
 cases hs
 ·go_wp2_with fail
  go_ret
  refine ⟨p', q2, q', c', d2, d', ?_⟩
  rw [HD.out]
  exact ⟨rfl, hM3, hB2.trans hB3, hK2.trans hK3, Nat.le_trans hS2 hS3⟩
 ·go_wp2_with fail
  go_ret
  refine ⟨p', q2, q', c', d2, d', ?_⟩
  rw [HD.out]
  exact ⟨rfl, hM3, hB2.trans hB3, hK2.trans hK3, Nat.le_trans hS2 hS3⟩
theorem do_delN (q : ReqD) (base gn gw : Nat) (q1 q2 q3 : Option Addr) (d1 d2 d3 : Nat) (s : St) (now : Int) (w : World) (hM : WorkM w base gn gw q1 q2 q3 d1 d2 d3 s now) (hbw : base ≤ w.heap.size) (F : Fine s) (hT : ∀ W, Below base w W → Tabs W) (hq : reqE q = 0) (hkind : q.kind = 4) :
  Calls Tryz.prog 24 #[.pointer (some ⟨gw, 0, none⟩), .agg #[.int .i64 q.kind, .string q.job.name, .int .i64 q.job.prio, .int .i64 q.job.need, .int .i64 q.job.tries, .string q.job.tag, .string q.node.name, .int .i64 q.node.room, .string q.node.zone, .string q.lease.job, .string q.lease.node, .int .i64 q.lease.till, .string q.name, .int .i64 q.n]] w fun e w' => DoPost w base gn gw (doW ⟨s, now⟩ q) e w' := by
 have hD : doW ⟨s, now⟩ q = (⟨{ s with nodes := takeL NodeD.name s.nodes q.name, leases := s.leases.filter fun l => !decide (l.node = q.name) }, now⟩, if hasL NodeD.name s.nodes q.name = true then 0 else 6) := by unfold doW; simp [hkind]
 have HP := Lib.hid (fun (W : World) (c : Nat) (p : Option Addr) (hO : Own W base 34 3 p c (s.nodes.map rowN)) => takeON_any s.nodes q.name base p c W hO F.sn (by have := F.nn; omega))
 have HD := Lib.hid hD
 have hll := F.nl
 generalize hhs : hasL NodeD.name s.nodes q.name = hs at *
 have hb0 : Below w.heap.size w ((w.alloc (.cells #[.pointer (some ⟨gw, 0, none⟩)] 67)).alloc (.cells #[.int .i64 q.kind, .string q.job.name, .int .i64 q.job.prio, .int .i64 q.job.need, .int .i64 q.job.tries, .string q.job.tag, .string q.node.name, .int .i64 q.node.room, .string q.node.zone, .string q.lease.job, .string q.lease.node, .int .i64 q.lease.till, .string q.name, .int .i64 q.n] 43)) := ((Below.refl _ _).alloc (Nat.le_refl _) _).alloc (by simp) _
 have hs1 : (w.alloc (.cells #[.pointer (some ⟨gw, 0, none⟩)] 67)).heap.size = w.heap.size + 1 := by simp
 have bb := (Blk.new w 67 #[.pointer (some ⟨gw, 0, none⟩)]).alloc (.cells #[.int .i64 q.kind, .string q.job.name, .int .i64 q.job.prio, .int .i64 q.job.need, .int .i64 q.job.tries, .string q.job.tag, .string q.node.name, .int .i64 q.node.room, .string q.node.zone, .string q.lease.job, .string q.lease.node, .int .i64 q.lease.till, .string q.name, .int .i64 q.n] 43)
 have bq : Blk ((w.alloc (.cells #[.pointer (some ⟨gw, 0, none⟩)] 67)).alloc (.cells #[.int .i64 q.kind, .string q.job.name, .int .i64 q.job.prio, .int .i64 q.job.need, .int .i64 q.job.tries, .string q.job.tag, .string q.node.name, .int .i64 q.node.room, .string q.node.zone, .string q.lease.job, .string q.lease.node, .int .i64 q.lease.till, .string q.name, .int .i64 q.n] 43)) (w.heap.size + 1) 43 #[.int .i64 q.kind, .string q.job.name, .int .i64 q.job.prio, .int .i64 q.job.need, .int .i64 q.job.tries, .string q.job.tag, .string q.node.name, .int .i64 q.node.room, .string q.node.zone, .string q.lease.job, .string q.lease.node, .int .i64 q.lease.till, .string q.name, .int .i64 q.n] := by have := Blk.new (w.alloc (.cells #[.pointer (some ⟨gw, 0, none⟩)] 67)) 43 #[.int .i64 q.kind, .string q.job.name, .int .i64 q.job.prio, .int .i64 q.job.need, .int .i64 q.job.tries, .string q.job.tag, .string q.node.name, .int .i64 q.node.room, .string q.node.zone, .string q.lease.job, .string q.lease.node, .int .i64 q.lease.till, .string q.name, .int .i64 q.n]; rwa [hs1] at this
 have hM0 := hM.below hb0
 have hbw0 := Nat.le_trans hbw hb0.size
 have hB0 : Below base w ((w.alloc (.cells #[.pointer (some ⟨gw, 0, none⟩)] 67)).alloc (.cells #[.int .i64 q.kind, .string q.job.name, .int .i64 q.job.prio, .int .i64 q.job.need, .int .i64 q.job.tries, .string q.job.tag, .string q.node.name, .int .i64 q.node.room, .string q.node.zone, .string q.lease.job, .string q.lease.node, .int .i64 q.lease.till, .string q.name, .int .i64 q.n] 43)) := hb0.mono hbw
 have hK0 := Kp.below hb0
 have hS0 := hb0.size
 clear hM hb0 hs1
 have kk1 : (q.kind == (1 : Int)) = false := by rw [hkind]; rfl
 have kk2 : (q.kind == (2 : Int)) = false := by rw [hkind]; rfl
 have kk3 : (q.kind == (3 : Int)) = false := by rw [hkind]; rfl
 have kk4 : (q.kind == (4 : Int)) = true := by rw [hkind]; rfl
 clear hkind hq hD hT F hhs
 go_enter Tryz.func24, Tryz.ntmps24
 go_upto_region 1 with fail
 generalize (w.alloc _).alloc _ = w0 at *
 have x0 : w0.cell? ⟨w.heap.size + 1, 0, none⟩ = some (.int .i64 q.kind) := bq.cell 0
 go_upto_region 13 with fail
 clear x0
 have G0 : Blk w0.drew w.heap.size 67 #[.pointer (some ⟨gw, 0, none⟩)] ∧ Blk w0.drew gw 70 #[.pointer (some ⟨gn, 0, none⟩), .int .i64 now] ∧ Blk w0.drew (w.heap.size + 1) 43 #[.int .i64 q.kind, .string q.job.name, .int .i64 q.job.prio, .int .i64 q.job.need, .int .i64 q.job.tries, .string q.job.tag, .string q.node.name, .int .i64 q.node.room, .string q.node.zone, .string q.lease.job, .string q.lease.node, .int .i64 q.lease.till, .string q.name, .int .i64 q.n] := ⟨bb.drew, hM0.bw.drew, bq.drew⟩
 have y0 : w0.drew.cell? ⟨gn, 2, none⟩ = some (.slice q2 s.nodes.length d2) := hM0.bn.cell 2
 refine wp_region_held_drew (S := fun W => Blk W w.heap.size 67 #[.pointer (some ⟨gw, 0, none⟩)] ∧ Blk W gw 70 #[.pointer (some ⟨gn, 0, none⟩), .int .i64 now] ∧ Blk W (w.heap.size + 1) 43 #[.int .i64 q.kind, .string q.job.name, .int .i64 q.job.prio, .int .i64 q.job.need, .int .i64 q.job.tries, .string q.job.tag, .string q.node.name, .int .i64 q.node.room, .string q.node.zone, .string q.lease.job, .string q.lease.node, .int .i64 q.lease.till, .string q.name, .int .i64 q.n]) (by kernel_rfl) G0 (fun hHeld => ?_)
 refine tk 0 (v := ?_) rfl (Or.inl ⟨by rfl, ?_⟩) ?_
 rotate_left
 ·(intro w5 hw5; obtain ⟨hb1_, hb2_, hb3_⟩ := hw5; have q1 := hb1_.cell; have q2 := hb2_.cell; have q3 := hb3_.cell; go_simp; (try with_reducible rfl))
 (try simp only [Act.put, ma, mb, mc, md, me, mf])
 refine tk 1 (v := ?_) rfl (Or.inl ⟨by rfl, ?_⟩) ?_
 rotate_left
 ·(intro w5 hw5; obtain ⟨hb1_, hb2_, hb3_⟩ := hw5; have q1 := hb1_.cell; have q2 := hb2_.cell; have q3 := hb3_.cell; go_simp; (try with_reducible rfl))
 (try simp only [Act.put, ma, mb, mc, md, me, mf])
 refine tk 2 (v := ?_) rfl (Or.inl ⟨by rfl, ?_⟩) ?_
 rotate_left
 ·(intro w5 hw5; obtain ⟨hb1_, hb2_, hb3_⟩ := hw5; have q1 := hb1_.cell; have q2 := hb2_.cell; have q3 := hb3_.cell; go_simp; (try with_reducible rfl))
 (try simp only [Act.put, ma, mb, mc, md, me, mf])
 refine tk 3 (v := ?_) rfl (Or.inl ⟨by rfl, ?_⟩) ?_
 rotate_left
 ·(intro w5 hw5; obtain ⟨hb1_, hb2_, hb3_⟩ := hw5; have q1 := hb1_.cell; have q2 := hb2_.cell; have q3 := hb3_.cell; go_simp; (try with_reducible rfl))
 (try simp only [Act.put, ma, mb, mc, md, me, mf])
 refine tk 4 (v := ?_) rfl (Or.inl ⟨by rfl, ?_⟩) ?_
 rotate_left
 ·(intro w5 hw5; obtain ⟨hb1_, hb2_, hb3_⟩ := hw5; have q1 := hb1_.cell; have q2 := hb2_.cell; have q3 := hb3_.cell; go_simp; (try with_reducible rfl))
 (try simp only [Act.put, ma, mb, mc, md, me, mf])
 refine tk 5 (v := ?_) rfl (Or.inl ⟨by rfl, ?_⟩) ?_
 rotate_left
 ·(intro w5 hw5; obtain ⟨hb1_, hb2_, hb3_⟩ := hw5; have q1 := hb1_.cell; have q2 := hb2_.cell; have q3 := hb3_.cell; go_simp; (try with_reducible rfl))
 (try simp only [Act.put, ma, mb, mc, md, me, mf])
 refine tk 6 (v := ?_) rfl (Or.inl ⟨by rfl, ?_⟩) ?_
 rotate_left
 ·(intro w5 hw5; obtain ⟨hb1_, hb2_, hb3_⟩ := hw5; have q1 := hb1_.cell; have q2 := hb2_.cell; have q3 := hb3_.cell; go_simp; (try with_reducible rfl))
 (try simp only [Act.put, ma, mb, mc, md, me, mf])
 refine tk 7 (v := ?_) rfl (Or.inl ⟨by rfl, ?_⟩) ?_
 rotate_left
 ·(intro w5 hw5; obtain ⟨hb1_, hb2_, hb3_⟩ := hw5; have q1 := hb1_.cell; have q2 := hb2_.cell; have q3 := hb3_.cell; go_simp; (try with_reducible rfl))
 (try simp only [Act.put, ma, mb, mc, md, me, mf])
 refine tk 8 (v := ?_) rfl (Or.inl ⟨by rfl, ?_⟩) ?_
 rotate_left
 ·(intro w5 hw5; obtain ⟨hb1_, hb2_, hb3_⟩ := hw5; have q1 := hb1_.cell; have q2 := hb2_.cell; have q3 := hb3_.cell; go_simp; (try with_reducible rfl))
 (try simp only [Act.put, ma, mb, mc, md, me, mf])
 refine tk 9 (v := ?_) rfl (Or.inl ⟨by rfl, ?_⟩) ?_
 rotate_left
 ·(intro w5 hw5; obtain ⟨hb1_, hb2_, hb3_⟩ := hw5; have q1 := hb1_.cell; have q2 := hb2_.cell; have q3 := hb3_.cell; go_simp; (try with_reducible rfl))
 (try simp only [Act.put, ma, mb, mc, md, me, mf])
 refine tk 11 (v := ?_) rfl (Or.inl ⟨by rfl, ?_⟩) ?_
 rotate_left
 ·(intro w5 hw5; obtain ⟨hb1_, hb2_, hb3_⟩ := hw5; have q1 := hb1_.cell; have q2 := hb2_.cell; have q3 := hb3_.cell; go_simp; (try with_reducible rfl))
 (try simp only [Act.put, ma, mb, mc, md, me, mf])
 refine tk 12 (v := ?_) rfl (Or.inl ⟨by rfl, ?_⟩) ?_
 rotate_left
 ·(intro w5 hw5; obtain ⟨hb1_, hb2_, hb3_⟩ := hw5; have q1 := hb1_.cell; have q2 := hb2_.cell; have q3 := hb3_.cell; go_simp; (try with_reducible rfl))
 (try simp only [Act.put, ma, mb, mc, md, me, mf])
 refine tr 10 rfl (fun K hK => ?_)
 go_simp
 refine hK.out _ _ ?_ (fun hHeld => ?_)
 ·exact G0
 clear hK K
 (try simp only [Act.put, ma, mb, mc, md, me, mf])
 refine tr 13 rfl (fun K hK => ?_)
 go_simp
 refine (HP.out w0.drew d2 q2 (hM0.below ((Below.refl _ w0).drew)).own.n).mono ?_
 rintro e w1 ⟨p', c', rfl, hO, hTc⟩
 have G1 : Blk w1 w.heap.size 67 #[.pointer (some ⟨gw, 0, none⟩)] ∧ Blk w1 gw 70 #[.pointer (some ⟨gn, 0, none⟩), .int .i64 now] ∧ Blk w1 (w.heap.size + 1) 43 #[.int .i64 q.kind, .string q.job.name, .int .i64 q.job.prio, .int .i64 q.job.need, .int .i64 q.job.tries, .string q.job.tag, .string q.node.name, .int .i64 q.node.room, .string q.node.zone, .string q.lease.job, .string q.lease.node, .int .i64 q.lease.till, .string q.name, .int .i64 q.n] := ⟨hTc.blk G0.1 (by decide), hTc.blk G0.2.1 (by decide), hTc.blk G0.2.2 (by decide)⟩
 have bn1 := hTc.blk hM0.bn.drew (by decide)
 have y1 : w1.cell? ⟨gn, 2, none⟩ = some (.slice q2 s.nodes.length d2) := bn1.cell 2
 have y2 : w1.frozen? ⟨gn, 2, none⟩ = false := bn1.frozen 2
 refine hK.out _ _ ?_ (fun hHeld => ?_)
 ·exact G1
 clear hK K
 (try simp only [Act.put, ma, mb, mc, md, me, mf])
 refine tk 14 (v := ?_) rfl (Or.inl ⟨by rfl, ?_⟩) ?_
 rotate_left
 ·(intro w5 hw5; obtain ⟨hb1_, hb2_, hb3_⟩ := hw5; have q1 := hb1_.cell; have q2 := hb2_.cell; have q3 := hb3_.cell; go_simp; (try with_reducible rfl))
 (try simp only [Act.put, ma, mb, mc, md, me, mf])
 refine tk 15 (v := ?_) rfl (Or.inl ⟨by rfl, ?_⟩) ?_
 rotate_left
 ·(intro w5 hw5; obtain ⟨hb1_, hb2_, hb3_⟩ := hw5; have q1 := hb1_.cell; have q2 := hb2_.cell; have q3 := hb3_.cell; go_simp; (try with_reducible rfl))
 (try simp only [Act.put, ma, mb, mc, md, me, mf])
 refine tk 16 (v := ?_) rfl (Or.inl ⟨by rfl, ?_⟩) ?_
 rotate_left
 ·(intro w5 hw5; obtain ⟨hb1_, hb2_, hb3_⟩ := hw5; have q1 := hb1_.cell; have q2 := hb2_.cell; have q3 := hb3_.cell; go_simp; (try with_reducible rfl))
 (try simp only [Act.put, ma, mb, mc, md, me, mf])
 refine tk 17 (v := ?_) rfl (Or.inl ⟨by rfl, ?_⟩) ?_
 rotate_left
 ·(intro w5 hw5; obtain ⟨hb1_, hb2_, hb3_⟩ := hw5; have q1 := hb1_.cell; have q2 := hb2_.cell; have q3 := hb3_.cell; go_simp; (try with_reducible rfl))
 (try simp only [Act.put, ma, mb, mc, md, me, mf])
 refine tk 18 (v := ?_) rfl (Or.inl ⟨by rfl, ?_⟩) ?_
 rotate_left
 ·(intro w5 hw5; obtain ⟨hb1_, hb2_, hb3_⟩ := hw5; have q1 := hb1_.cell; have q2 := hb2_.cell; have q3 := hb3_.cell; go_simp; (try with_reducible rfl))
 (try simp only [Act.put, ma, mb, mc, md, me, mf])
 have n1 := G1.1.ne_ bn1 (by decide)
 have n2 := G1.2.1.ne_ bn1 (by decide)
 have n3 := G1.2.2.ne_ bn1 (by decide)
 have G2 : Blk (w1.setCell ⟨gn, 2, none⟩ (.slice p' (takeL NodeD.name s.nodes q.name).length c')) w.heap.size 67 #[.pointer (some ⟨gw, 0, none⟩)] ∧ Blk (w1.setCell ⟨gn, 2, none⟩ (.slice p' (takeL NodeD.name s.nodes q.name).length c')) gw 70 #[.pointer (some ⟨gn, 0, none⟩), .int .i64 now] ∧ Blk (w1.setCell ⟨gn, 2, none⟩ (.slice p' (takeL NodeD.name s.nodes q.name).length c')) (w.heap.size + 1) 43 #[.int .i64 q.kind, .string q.job.name, .int .i64 q.job.prio, .int .i64 q.job.need, .int .i64 q.job.tries, .string q.job.tag, .string q.node.name, .int .i64 q.node.room, .string q.node.zone, .string q.lease.job, .string q.lease.node, .int .i64 q.lease.till, .string q.name, .int .i64 q.n] := ⟨G1.1.far (p := ⟨gn, 2, none⟩) n1 _, G1.2.1.far (p := ⟨gn, 2, none⟩) n2 _, G1.2.2.far (p := ⟨gn, 2, none⟩) n3 _⟩
 refine tr 19 rfl (fun K hK => ?_)
 go_simp
 refine hK.out _ _ ?_ (fun hHeld => ?_)
 ·exact G2
 clear hK K
 (try simp only [Act.put, ma, mb, mc, md, me, mf])
 refine tk 20 (v := ?_) rfl (Or.inl ⟨by rfl, ?_⟩) ?_
 rotate_left
 ·(intro w5 hw5; obtain ⟨hb1_, hb2_, hb3_⟩ := hw5; have q1 := hb1_.cell; have q2 := hb2_.cell; have q3 := hb3_.cell; go_simp; (try with_reducible rfl))
 (try simp only [Act.put, ma, mb, mc, md, me, mf])
 refine wpAnyH_done (by kernel_rfl) ?_ _
 have hTc := Tch.after ((Below.refl _ w0).drew) hTc
 have hM2 := hM0.setN hTc hO
 have hK2 := hK0.trans ((Kp.tchN hTc).trans (Kp.cell bn1 (by simp) 2 (.slice p' (takeL NodeD.name s.nodes q.name).length c')))
 have hB2 : Below base w (w1.setCell ⟨gn, 2, none⟩ (.slice p' (takeL NodeD.name s.nodes q.name).length c')) := (hTc.low hB0 hbw0).setCell (p := ⟨gn, 2, none⟩) hM0.hn _
 have hS2 : w.heap.size ≤ (w1.setCell ⟨gn, 2, none⟩ (.slice p' (takeL NodeD.name s.nodes q.name).length c')).heap.size := by have := tch_size hTc; simp; omega
 generalize w1.setCell _ _ = w2 at *
 have hbw2 : base ≤ w2.heap.size := Nat.le_trans hbw hS2
 obtain ⟨bb2, bw2, bq2⟩ := G2
 clear hM0 hTc hO bn1 G0 G1 n1 n2 n3 y0 y1 y2 hHeld
 have hfn : FnOk Tryz.prog w2 46 #[.pointer (some ⟨w.heap.size + 1, 0, none⟩)] rowL (fun l => decide (l.node = q.name)) s.leases := ⟨fun args W => by kernel_rfl, fun x _ W hW => do2_any (w.heap.size + 1) x q.name W ((bq2.below hW bq2.lt).cell 12) (bq2.below hW bq2.lt).lt⟩
 have hfg : ∀ g cur, base ≤ g → Blk w2 g 37 cur → FnOkG Tryz.prog w2 g 46 #[.pointer (some ⟨w.heap.size + 1, 0, none⟩)] rowL (fun l => decide (l.node = q.name)) s.leases := fun g cur _ hb => ⟨fun args W => by kernel_rfl, fun x _ W hW => by
  have b3 := GrB.blk hW bq2 (bq2.ne_ hb (by decide))
  exact do2_any (w.heap.size + 1) x q.name W (b3.cell 12) b3.lt⟩
 have HW := Lib.hid (without_any _ _ _ base gn gw _ _ _ _ _ _ _ now w2 hM2 hbw2 (by show s.leases.length ≤ 1000; omega) hfn hfg)
 have z0 : w2.cell? ⟨w.heap.size, 0, none⟩ = some (.pointer (some ⟨gw, 0, none⟩)) := bb2.cell 0
 clear hM2 hfn hfg bb2 bw2 bq2
 go_wp2_with fail
 refine HW.out.mono ?_
 rintro e w3 ⟨rfl, q', d', hM3, hB3, hK3, hS3⟩
 cases hs
 ·go_wp2_with fail
  go_ret
  refine ⟨q1, p', q', d1, c', d', ?_⟩
  rw [HD.out]
  exact ⟨rfl, hM3, hB2.trans hB3, hK2.trans hK3, Nat.le_trans hS2 hS3⟩
 ·go_wp2_with fail
  go_ret
  refine ⟨q1, p', q', d1, c', d', ?_⟩
  rw [HD.out]
  exact ⟨rfl, hM3, hB2.trans hB3, hK2.trans hK3, Nat.le_trans hS2 hS3⟩
theorem do_free (q : ReqD) (base gn gw : Nat) (q1 q2 q3 : Option Addr) (d1 d2 d3 : Nat) (s : St) (now : Int) (w : World) (hM : WorkM w base gn gw q1 q2 q3 d1 d2 d3 s now) (hbw : base ≤ w.heap.size) (F : Fine s) (hT : ∀ W, Below base w W → Tabs W) (hq : reqE q = 0) (hkind : q.kind = 6) :
  Calls Tryz.prog 24 #[.pointer (some ⟨gw, 0, none⟩), .agg #[.int .i64 q.kind, .string q.job.name, .int .i64 q.job.prio, .int .i64 q.job.need, .int .i64 q.job.tries, .string q.job.tag, .string q.node.name, .int .i64 q.node.room, .string q.node.zone, .string q.lease.job, .string q.lease.node, .int .i64 q.lease.till, .string q.name, .int .i64 q.n]] w fun e w' => DoPost w base gn gw (doW ⟨s, now⟩ q) e w' := by
 have hD : doW ⟨s, now⟩ q = (⟨{ s with leases := takeL LeaseD.job s.leases q.name }, now⟩, if hasL LeaseD.job s.leases q.name = true then 0 else 6) := by unfold doW; simp [hkind]
 have HP := Lib.hid (fun (W : World) (c : Nat) (p : Option Addr) (hO : Own W base 37 3 p c (s.leases.map rowL)) => takeOL_any s.leases q.name base p c W hO F.sl (by have := F.nl; omega))
 have HD := Lib.hid hD
 generalize hhs : hasL LeaseD.job s.leases q.name = hs at *
 have hb0 : Below w.heap.size w ((w.alloc (.cells #[.pointer (some ⟨gw, 0, none⟩)] 67)).alloc (.cells #[.int .i64 q.kind, .string q.job.name, .int .i64 q.job.prio, .int .i64 q.job.need, .int .i64 q.job.tries, .string q.job.tag, .string q.node.name, .int .i64 q.node.room, .string q.node.zone, .string q.lease.job, .string q.lease.node, .int .i64 q.lease.till, .string q.name, .int .i64 q.n] 43)) := ((Below.refl _ _).alloc (Nat.le_refl _) _).alloc (by simp) _
 have hs1 : (w.alloc (.cells #[.pointer (some ⟨gw, 0, none⟩)] 67)).heap.size = w.heap.size + 1 := by simp
 have bb := (Blk.new w 67 #[.pointer (some ⟨gw, 0, none⟩)]).alloc (.cells #[.int .i64 q.kind, .string q.job.name, .int .i64 q.job.prio, .int .i64 q.job.need, .int .i64 q.job.tries, .string q.job.tag, .string q.node.name, .int .i64 q.node.room, .string q.node.zone, .string q.lease.job, .string q.lease.node, .int .i64 q.lease.till, .string q.name, .int .i64 q.n] 43)
 have bq : Blk ((w.alloc (.cells #[.pointer (some ⟨gw, 0, none⟩)] 67)).alloc (.cells #[.int .i64 q.kind, .string q.job.name, .int .i64 q.job.prio, .int .i64 q.job.need, .int .i64 q.job.tries, .string q.job.tag, .string q.node.name, .int .i64 q.node.room, .string q.node.zone, .string q.lease.job, .string q.lease.node, .int .i64 q.lease.till, .string q.name, .int .i64 q.n] 43)) (w.heap.size + 1) 43 #[.int .i64 q.kind, .string q.job.name, .int .i64 q.job.prio, .int .i64 q.job.need, .int .i64 q.job.tries, .string q.job.tag, .string q.node.name, .int .i64 q.node.room, .string q.node.zone, .string q.lease.job, .string q.lease.node, .int .i64 q.lease.till, .string q.name, .int .i64 q.n] := by have := Blk.new (w.alloc (.cells #[.pointer (some ⟨gw, 0, none⟩)] 67)) 43 #[.int .i64 q.kind, .string q.job.name, .int .i64 q.job.prio, .int .i64 q.job.need, .int .i64 q.job.tries, .string q.job.tag, .string q.node.name, .int .i64 q.node.room, .string q.node.zone, .string q.lease.job, .string q.lease.node, .int .i64 q.lease.till, .string q.name, .int .i64 q.n]; rwa [hs1] at this
 have hM0 := hM.below hb0
 have hbw0 := Nat.le_trans hbw hb0.size
 have hB0 : Below base w ((w.alloc (.cells #[.pointer (some ⟨gw, 0, none⟩)] 67)).alloc (.cells #[.int .i64 q.kind, .string q.job.name, .int .i64 q.job.prio, .int .i64 q.job.need, .int .i64 q.job.tries, .string q.job.tag, .string q.node.name, .int .i64 q.node.room, .string q.node.zone, .string q.lease.job, .string q.lease.node, .int .i64 q.lease.till, .string q.name, .int .i64 q.n] 43)) := hb0.mono hbw
 have hK0 := Kp.below hb0
 have hS0 := hb0.size
 clear hM hb0 hs1
 have kk1 : (q.kind == (1 : Int)) = false := by rw [hkind]; rfl
 have kk2 : (q.kind == (2 : Int)) = false := by rw [hkind]; rfl
 have kk3 : (q.kind == (3 : Int)) = false := by rw [hkind]; rfl
 have kk4 : (q.kind == (4 : Int)) = false := by rw [hkind]; rfl
 have kk5 : (q.kind == (5 : Int)) = false := by rw [hkind]; rfl
 have kk6 : (q.kind == (6 : Int)) = true := by rw [hkind]; rfl
 clear hkind hq hD hT F hhs
 go_enter Tryz.func24, Tryz.ntmps24
 go_upto_region 1 with fail
 generalize (w.alloc _).alloc _ = w0 at *
 have x0 : w0.cell? ⟨w.heap.size + 1, 0, none⟩ = some (.int .i64 q.kind) := bq.cell 0
 go_upto_region 18 with fail
 clear x0
 have G0 : Blk w0.drew w.heap.size 67 #[.pointer (some ⟨gw, 0, none⟩)] ∧ Blk w0.drew gw 70 #[.pointer (some ⟨gn, 0, none⟩), .int .i64 now] ∧ Blk w0.drew (w.heap.size + 1) 43 #[.int .i64 q.kind, .string q.job.name, .int .i64 q.job.prio, .int .i64 q.job.need, .int .i64 q.job.tries, .string q.job.tag, .string q.node.name, .int .i64 q.node.room, .string q.node.zone, .string q.lease.job, .string q.lease.node, .int .i64 q.lease.till, .string q.name, .int .i64 q.n] := ⟨bb.drew, hM0.bw.drew, bq.drew⟩
 have y0 : w0.drew.cell? ⟨gn, 3, none⟩ = some (.slice q3 s.leases.length d3) := hM0.bn.cell 3
 refine wp_region_held_drew (S := fun W => Blk W w.heap.size 67 #[.pointer (some ⟨gw, 0, none⟩)] ∧ Blk W gw 70 #[.pointer (some ⟨gn, 0, none⟩), .int .i64 now] ∧ Blk W (w.heap.size + 1) 43 #[.int .i64 q.kind, .string q.job.name, .int .i64 q.job.prio, .int .i64 q.job.need, .int .i64 q.job.tries, .string q.job.tag, .string q.node.name, .int .i64 q.node.room, .string q.node.zone, .string q.lease.job, .string q.lease.node, .int .i64 q.lease.till, .string q.name, .int .i64 q.n]) (by kernel_rfl) G0 (fun hHeld => ?_)
 refine tk 0 (v := ?_) rfl (Or.inl ⟨by rfl, ?_⟩) ?_
 rotate_left
 ·(intro w5 hw5; obtain ⟨hb1_, hb2_, hb3_⟩ := hw5; have q1 := hb1_.cell; have q2 := hb2_.cell; have q3 := hb3_.cell; go_simp; (try with_reducible rfl))
 (try simp only [Act.put, ma, mb, mc, md, me, mf])
 refine tk 1 (v := ?_) rfl (Or.inl ⟨by rfl, ?_⟩) ?_
 rotate_left
 ·(intro w5 hw5; obtain ⟨hb1_, hb2_, hb3_⟩ := hw5; have q1 := hb1_.cell; have q2 := hb2_.cell; have q3 := hb3_.cell; go_simp; (try with_reducible rfl))
 (try simp only [Act.put, ma, mb, mc, md, me, mf])
 refine tk 2 (v := ?_) rfl (Or.inl ⟨by rfl, ?_⟩) ?_
 rotate_left
 ·(intro w5 hw5; obtain ⟨hb1_, hb2_, hb3_⟩ := hw5; have q1 := hb1_.cell; have q2 := hb2_.cell; have q3 := hb3_.cell; go_simp; (try with_reducible rfl))
 (try simp only [Act.put, ma, mb, mc, md, me, mf])
 refine tk 3 (v := ?_) rfl (Or.inl ⟨by rfl, ?_⟩) ?_
 rotate_left
 ·(intro w5 hw5; obtain ⟨hb1_, hb2_, hb3_⟩ := hw5; have q1 := hb1_.cell; have q2 := hb2_.cell; have q3 := hb3_.cell; go_simp; (try with_reducible rfl))
 (try simp only [Act.put, ma, mb, mc, md, me, mf])
 refine tk 4 (v := ?_) rfl (Or.inl ⟨by rfl, ?_⟩) ?_
 rotate_left
 ·(intro w5 hw5; obtain ⟨hb1_, hb2_, hb3_⟩ := hw5; have q1 := hb1_.cell; have q2 := hb2_.cell; have q3 := hb3_.cell; go_simp; (try with_reducible rfl))
 (try simp only [Act.put, ma, mb, mc, md, me, mf])
 refine tk 5 (v := ?_) rfl (Or.inl ⟨by rfl, ?_⟩) ?_
 rotate_left
 ·(intro w5 hw5; obtain ⟨hb1_, hb2_, hb3_⟩ := hw5; have q1 := hb1_.cell; have q2 := hb2_.cell; have q3 := hb3_.cell; go_simp; (try with_reducible rfl))
 (try simp only [Act.put, ma, mb, mc, md, me, mf])
 refine tk 6 (v := ?_) rfl (Or.inl ⟨by rfl, ?_⟩) ?_
 rotate_left
 ·(intro w5 hw5; obtain ⟨hb1_, hb2_, hb3_⟩ := hw5; have q1 := hb1_.cell; have q2 := hb2_.cell; have q3 := hb3_.cell; go_simp; (try with_reducible rfl))
 (try simp only [Act.put, ma, mb, mc, md, me, mf])
 refine tk 7 (v := ?_) rfl (Or.inl ⟨by rfl, ?_⟩) ?_
 rotate_left
 ·(intro w5 hw5; obtain ⟨hb1_, hb2_, hb3_⟩ := hw5; have q1 := hb1_.cell; have q2 := hb2_.cell; have q3 := hb3_.cell; go_simp; (try with_reducible rfl))
 (try simp only [Act.put, ma, mb, mc, md, me, mf])
 refine tk 8 (v := ?_) rfl (Or.inl ⟨by rfl, ?_⟩) ?_
 rotate_left
 ·(intro w5 hw5; obtain ⟨hb1_, hb2_, hb3_⟩ := hw5; have q1 := hb1_.cell; have q2 := hb2_.cell; have q3 := hb3_.cell; go_simp; (try with_reducible rfl))
 (try simp only [Act.put, ma, mb, mc, md, me, mf])
 refine tk 9 (v := ?_) rfl (Or.inl ⟨by rfl, ?_⟩) ?_
 rotate_left
 ·(intro w5 hw5; obtain ⟨hb1_, hb2_, hb3_⟩ := hw5; have q1 := hb1_.cell; have q2 := hb2_.cell; have q3 := hb3_.cell; go_simp; (try with_reducible rfl))
 (try simp only [Act.put, ma, mb, mc, md, me, mf])
 refine tk 11 (v := ?_) rfl (Or.inl ⟨by rfl, ?_⟩) ?_
 rotate_left
 ·(intro w5 hw5; obtain ⟨hb1_, hb2_, hb3_⟩ := hw5; have q1 := hb1_.cell; have q2 := hb2_.cell; have q3 := hb3_.cell; go_simp; (try with_reducible rfl))
 (try simp only [Act.put, ma, mb, mc, md, me, mf])
 refine tk 12 (v := ?_) rfl (Or.inl ⟨by rfl, ?_⟩) ?_
 rotate_left
 ·(intro w5 hw5; obtain ⟨hb1_, hb2_, hb3_⟩ := hw5; have q1 := hb1_.cell; have q2 := hb2_.cell; have q3 := hb3_.cell; go_simp; (try with_reducible rfl))
 (try simp only [Act.put, ma, mb, mc, md, me, mf])
 refine tr 10 rfl (fun K hK => ?_)
 go_simp
 refine hK.out _ _ ?_ (fun hHeld => ?_)
 ·exact G0
 clear hK K
 (try simp only [Act.put, ma, mb, mc, md, me, mf])
 refine tr 13 rfl (fun K hK => ?_)
 go_simp
 refine (HP.out w0.drew d3 q3 (hM0.below ((Below.refl _ w0).drew)).own.l).mono ?_
 rintro e w1 ⟨p', c', rfl, hO, hTc⟩
 have G1 : Blk w1 w.heap.size 67 #[.pointer (some ⟨gw, 0, none⟩)] ∧ Blk w1 gw 70 #[.pointer (some ⟨gn, 0, none⟩), .int .i64 now] ∧ Blk w1 (w.heap.size + 1) 43 #[.int .i64 q.kind, .string q.job.name, .int .i64 q.job.prio, .int .i64 q.job.need, .int .i64 q.job.tries, .string q.job.tag, .string q.node.name, .int .i64 q.node.room, .string q.node.zone, .string q.lease.job, .string q.lease.node, .int .i64 q.lease.till, .string q.name, .int .i64 q.n] := ⟨hTc.blk G0.1 (by decide), hTc.blk G0.2.1 (by decide), hTc.blk G0.2.2 (by decide)⟩
 have bn1 := hTc.blk hM0.bn.drew (by decide)
 have y1 : w1.cell? ⟨gn, 3, none⟩ = some (.slice q3 s.leases.length d3) := bn1.cell 3
 have y2 : w1.frozen? ⟨gn, 3, none⟩ = false := bn1.frozen 3
 refine hK.out _ _ ?_ (fun hHeld => ?_)
 ·exact G1
 clear hK K
 (try simp only [Act.put, ma, mb, mc, md, me, mf])
 refine tk 14 (v := ?_) rfl (Or.inl ⟨by rfl, ?_⟩) ?_
 rotate_left
 ·(intro w5 hw5; obtain ⟨hb1_, hb2_, hb3_⟩ := hw5; have q1 := hb1_.cell; have q2 := hb2_.cell; have q3 := hb3_.cell; go_simp; (try with_reducible rfl))
 (try simp only [Act.put, ma, mb, mc, md, me, mf])
 refine tk 15 (v := ?_) rfl (Or.inl ⟨by rfl, ?_⟩) ?_
 rotate_left
 ·(intro w5 hw5; obtain ⟨hb1_, hb2_, hb3_⟩ := hw5; have q1 := hb1_.cell; have q2 := hb2_.cell; have q3 := hb3_.cell; go_simp; (try with_reducible rfl))
 (try simp only [Act.put, ma, mb, mc, md, me, mf])
 refine tk 16 (v := ?_) rfl (Or.inl ⟨by rfl, ?_⟩) ?_
 rotate_left
 ·(intro w5 hw5; obtain ⟨hb1_, hb2_, hb3_⟩ := hw5; have q1 := hb1_.cell; have q2 := hb2_.cell; have q3 := hb3_.cell; go_simp; (try with_reducible rfl))
 (try simp only [Act.put, ma, mb, mc, md, me, mf])
 refine tk 17 (v := ?_) rfl (Or.inl ⟨by rfl, ?_⟩) ?_
 rotate_left
 ·(intro w5 hw5; obtain ⟨hb1_, hb2_, hb3_⟩ := hw5; have q1 := hb1_.cell; have q2 := hb2_.cell; have q3 := hb3_.cell; go_simp; (try with_reducible rfl))
 (try simp only [Act.put, ma, mb, mc, md, me, mf])
 refine tk 18 (v := ?_) rfl (Or.inl ⟨by rfl, ?_⟩) ?_
 rotate_left
 ·(intro w5 hw5; obtain ⟨hb1_, hb2_, hb3_⟩ := hw5; have q1 := hb1_.cell; have q2 := hb2_.cell; have q3 := hb3_.cell; go_simp; (try with_reducible rfl))
 (try simp only [Act.put, ma, mb, mc, md, me, mf])
 have n1 := G1.1.ne_ bn1 (by decide)
 have n2 := G1.2.1.ne_ bn1 (by decide)
 have n3 := G1.2.2.ne_ bn1 (by decide)
 have G2 : Blk (w1.setCell ⟨gn, 3, none⟩ (.slice p' (takeL LeaseD.job s.leases q.name).length c')) w.heap.size 67 #[.pointer (some ⟨gw, 0, none⟩)] ∧ Blk (w1.setCell ⟨gn, 3, none⟩ (.slice p' (takeL LeaseD.job s.leases q.name).length c')) gw 70 #[.pointer (some ⟨gn, 0, none⟩), .int .i64 now] ∧ Blk (w1.setCell ⟨gn, 3, none⟩ (.slice p' (takeL LeaseD.job s.leases q.name).length c')) (w.heap.size + 1) 43 #[.int .i64 q.kind, .string q.job.name, .int .i64 q.job.prio, .int .i64 q.job.need, .int .i64 q.job.tries, .string q.job.tag, .string q.node.name, .int .i64 q.node.room, .string q.node.zone, .string q.lease.job, .string q.lease.node, .int .i64 q.lease.till, .string q.name, .int .i64 q.n] := ⟨G1.1.far (p := ⟨gn, 3, none⟩) n1 _, G1.2.1.far (p := ⟨gn, 3, none⟩) n2 _, G1.2.2.far (p := ⟨gn, 3, none⟩) n3 _⟩
 refine tr 19 rfl (fun K hK => ?_)
 go_simp
 refine hK.out _ _ ?_ (fun hHeld => ?_)
 ·exact G2
 clear hK K
 (try simp only [Act.put, ma, mb, mc, md, me, mf])
 refine tk 20 (v := ?_) rfl (Or.inl ⟨by rfl, ?_⟩) ?_
 rotate_left
 ·(intro w5 hw5; obtain ⟨hb1_, hb2_, hb3_⟩ := hw5; have q1 := hb1_.cell; have q2 := hb2_.cell; have q3 := hb3_.cell; go_simp; (try with_reducible rfl))
 (try simp only [Act.put, ma, mb, mc, md, me, mf])
 refine wpAnyH_done (by kernel_rfl) ?_ _
 have hTc := Tch.after ((Below.refl _ w0).drew) hTc
 have hM2 := hM0.setL hTc hO
 have hK2 := hK0.trans ((Kp.tchL hTc).trans (Kp.cell bn1 (by simp) 3 (.slice p' (takeL LeaseD.job s.leases q.name).length c')))
 have hB2 : Below base w (w1.setCell ⟨gn, 3, none⟩ (.slice p' (takeL LeaseD.job s.leases q.name).length c')) := (hTc.low hB0 hbw0).setCell (p := ⟨gn, 3, none⟩) hM0.hn _
 have hS2 : w.heap.size ≤ (w1.setCell ⟨gn, 3, none⟩ (.slice p' (takeL LeaseD.job s.leases q.name).length c')).heap.size := by have := tch_size hTc; simp; omega
 generalize w1.setCell _ _ = w2 at *
 have hbw2 : base ≤ w2.heap.size := Nat.le_trans hbw hS2
 obtain ⟨bb2, bw2, bq2⟩ := G2
 clear hM0 hTc hO bn1 G0 G1 n1 n2 n3 y0 y1 y2 hHeld
 clear bb2 bw2 bq2
 cases hs
 ·go_wp2_with fail
  go_ret
  refine ⟨q1, q2, p', d1, d2, c', ?_⟩
  rw [HD.out]
  exact ⟨rfl, hM2, hB2, hK2, hS2⟩
 ·go_wp2_with fail
  go_ret
  refine ⟨q1, q2, p', d1, d2, c', ?_⟩
  rw [HD.out]
  exact ⟨rfl, hM2, hB2, hK2, hS2⟩
theorem do_asks (q : ReqD) (base gn gw : Nat) (q1 q2 q3 : Option Addr) (d1 d2 d3 : Nat) (s : St) (now : Int) (w : World) (hM : WorkM w base gn gw q1 q2 q3 d1 d2 d3 s now) (hbw : base ≤ w.heap.size) (F : Fine s) (hT : ∀ W, Below base w W → Tabs W) (hq : reqE q = 0) (hkind : q.kind = 8 ∨ q.kind = 9) :
  Calls Tryz.prog 24 #[.pointer (some ⟨gw, 0, none⟩), .agg #[.int .i64 q.kind, .string q.job.name, .int .i64 q.job.prio, .int .i64 q.job.need, .int .i64 q.job.tries, .string q.job.tag, .string q.node.name, .int .i64 q.node.room, .string q.node.zone, .string q.lease.job, .string q.lease.node, .int .i64 q.lease.till, .string q.name, .int .i64 q.n]] w fun e w' => DoPost w base gn gw (doW ⟨s, now⟩ q) e w' := by
 have hD : doW ⟨s, now⟩ q = (⟨s, now⟩, 0) := doW_asks hkind
 have HD := Lib.hid hD
 have kk1 : (q.kind == (1 : Int)) = false := by rw [beq_eq_false_iff_ne]; omega
 have kk2 : (q.kind == (2 : Int)) = false := by rw [beq_eq_false_iff_ne]; omega
 have kk3 : (q.kind == (3 : Int)) = false := by rw [beq_eq_false_iff_ne]; omega
 have kk4 : (q.kind == (4 : Int)) = false := by rw [beq_eq_false_iff_ne]; omega
 have kk5 : (q.kind == (5 : Int)) = false := by rw [beq_eq_false_iff_ne]; omega
 have kk6 : (q.kind == (6 : Int)) = false := by rw [beq_eq_false_iff_ne]; omega
 have kk7 : (q.kind == (7 : Int)) = false := by rw [beq_eq_false_iff_ne]; omega
 have hb0 : Below w.heap.size w ((w.alloc (.cells #[.pointer (some ⟨gw, 0, none⟩)] 67)).alloc (.cells #[.int .i64 q.kind, .string q.job.name, .int .i64 q.job.prio, .int .i64 q.job.need, .int .i64 q.job.tries, .string q.job.tag, .string q.node.name, .int .i64 q.node.room, .string q.node.zone, .string q.lease.job, .string q.lease.node, .int .i64 q.lease.till, .string q.name, .int .i64 q.n] 43)) := ((Below.refl _ _).alloc (Nat.le_refl _) _).alloc (by simp) _
 have hs1 : (w.alloc (.cells #[.pointer (some ⟨gw, 0, none⟩)] 67)).heap.size = w.heap.size + 1 := by simp
 have bb := (Blk.new w 67 #[.pointer (some ⟨gw, 0, none⟩)]).alloc (.cells #[.int .i64 q.kind, .string q.job.name, .int .i64 q.job.prio, .int .i64 q.job.need, .int .i64 q.job.tries, .string q.job.tag, .string q.node.name, .int .i64 q.node.room, .string q.node.zone, .string q.lease.job, .string q.lease.node, .int .i64 q.lease.till, .string q.name, .int .i64 q.n] 43)
 have bq : Blk ((w.alloc (.cells #[.pointer (some ⟨gw, 0, none⟩)] 67)).alloc (.cells #[.int .i64 q.kind, .string q.job.name, .int .i64 q.job.prio, .int .i64 q.job.need, .int .i64 q.job.tries, .string q.job.tag, .string q.node.name, .int .i64 q.node.room, .string q.node.zone, .string q.lease.job, .string q.lease.node, .int .i64 q.lease.till, .string q.name, .int .i64 q.n] 43)) (w.heap.size + 1) 43 #[.int .i64 q.kind, .string q.job.name, .int .i64 q.job.prio, .int .i64 q.job.need, .int .i64 q.job.tries, .string q.job.tag, .string q.node.name, .int .i64 q.node.room, .string q.node.zone, .string q.lease.job, .string q.lease.node, .int .i64 q.lease.till, .string q.name, .int .i64 q.n] := by have := Blk.new (w.alloc (.cells #[.pointer (some ⟨gw, 0, none⟩)] 67)) 43 #[.int .i64 q.kind, .string q.job.name, .int .i64 q.job.prio, .int .i64 q.job.need, .int .i64 q.job.tries, .string q.job.tag, .string q.node.name, .int .i64 q.node.room, .string q.node.zone, .string q.lease.job, .string q.lease.node, .int .i64 q.lease.till, .string q.name, .int .i64 q.n]; rwa [hs1] at this
 have hM0 := hM.below hb0
 have hbw0 := Nat.le_trans hbw hb0.size
 have hB0 : Below base w ((w.alloc (.cells #[.pointer (some ⟨gw, 0, none⟩)] 67)).alloc (.cells #[.int .i64 q.kind, .string q.job.name, .int .i64 q.job.prio, .int .i64 q.job.need, .int .i64 q.job.tries, .string q.job.tag, .string q.node.name, .int .i64 q.node.room, .string q.node.zone, .string q.lease.job, .string q.lease.node, .int .i64 q.lease.till, .string q.name, .int .i64 q.n] 43)) := hb0.mono hbw
 have hK0 := Kp.below hb0
 have hS0 := hb0.size
 clear hM hb0 hs1
 clear hkind hq hD hT F
 go_enter Tryz.func24, Tryz.ntmps24
 go_upto_region 1 with fail
 generalize (w.alloc _).alloc _ = w0 at *
 have x0 : w0.cell? ⟨w.heap.size + 1, 0, none⟩ = some (.int .i64 q.kind) := bq.cell 0
 go_wp2_with fail
 go_ret
 refine ⟨q1, q2, q3, d1, d2, d3, ?_⟩
 rw [HD.out]
 exact ⟨rfl, hM0, hB0, hK0, hS0⟩
end Go.Proofs.YtaioadbenigdpaaGreatDoor
