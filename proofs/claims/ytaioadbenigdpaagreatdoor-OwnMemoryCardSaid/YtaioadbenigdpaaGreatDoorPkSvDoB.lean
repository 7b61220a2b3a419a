/-
  Several texts in one: SvDo1, SvDo2, SvDo3.
-/
import Derived.Test.YtaioadbenigdpaaGreatDoorPkHeld
import Derived.Test.YtaioadbenigdpaaGreatDoorPkSvDoA
set_option linter.unusedVariables false
set_option linter.unusedSimpArgs false
set_option maxHeartbeats 16000000
set_option maxRecDepth 100000
namespace Go.Proofs.YtaioadbenigdpaaGreatDoor
open Go.RowKit
theorem svDo_not (q : ReqD) (v : Srv) (g : Nat) (w : World) (hM : SvI w g v) (hv : SrvOk v) (HS : ReqSz q) (hT : Tabs w) (hq : reqE q ≠ 0) :
  Calls Tryz.prog 10 #[.pointer (some ⟨g, 0, none⟩), .agg #[.int .i64 q.kind, .string q.job.name, .int .i64 q.job.prio, .int .i64 q.job.need, .int .i64 q.job.tries, .string q.job.tag, .string q.node.name, .int .i64 q.node.room, .string q.node.zone, .string q.lease.job, .string q.lease.node, .int .i64 q.lease.till, .string q.name, .int .i64 q.n]] w fun e w' => SvDoPost w g (⟨reqE q, none, v⟩) e w' := by
 obtain ⟨q1, q2, q3, d1, d2, d3, hM⟩ := hM
 have F := hv.1
 have hnow := hv.2
 have hzr := zero_rep_lit
 have hzd := zero_delta_lit
 have hzs := zero_state_lit
 have hzw := zero_work_lit
 have hb0 : Below w.heap.size w (((w.alloc (.cells #[.int .i64 q.kind, .string q.job.name, .int .i64 q.job.prio, .int .i64 q.job.need, .int .i64 q.job.tries, .string q.job.tag, .string q.node.name, .int .i64 q.node.room, .string q.node.zone, .string q.lease.job, .string q.lease.node, .int .i64 q.lease.till, .string q.name, .int .i64 q.n] 43)).alloc (.cells #[.int .i64 0, .int .i64 0] 45)).alloc (.cells #[.int .i64 0, .int .i64 0, .slice none 0 0, .slice none 0 0, .slice none 0 0, .slice none 0 0, .slice none 0 0, .slice none 0 0] 48)) := (((Below.refl _ _).alloc (Nat.le_refl _) _).alloc (by simp) _).alloc (by simp; omega) _
 have bq0 := ((Blk.new w 43 #[.int .i64 q.kind, .string q.job.name, .int .i64 q.job.prio, .int .i64 q.job.need, .int .i64 q.job.tries, .string q.job.tag, .string q.node.name, .int .i64 q.node.room, .string q.node.zone, .string q.lease.job, .string q.lease.node, .int .i64 q.lease.till, .string q.name, .int .i64 q.n]).alloc (.cells #[.int .i64 0, .int .i64 0] 45)).alloc (.cells #[.int .i64 0, .int .i64 0, .slice none 0 0, .slice none 0 0, .slice none 0 0, .slice none 0 0, .slice none 0 0, .slice none 0 0] 48)
 have br0 : Blk (((w.alloc (.cells #[.int .i64 q.kind, .string q.job.name, .int .i64 q.job.prio, .int .i64 q.job.need, .int .i64 q.job.tries, .string q.job.tag, .string q.node.name, .int .i64 q.node.room, .string q.node.zone, .string q.lease.job, .string q.lease.node, .int .i64 q.lease.till, .string q.name, .int .i64 q.n] 43)).alloc (.cells #[.int .i64 0, .int .i64 0] 45)).alloc (.cells #[.int .i64 0, .int .i64 0, .slice none 0 0, .slice none 0 0, .slice none 0 0, .slice none 0 0, .slice none 0 0, .slice none 0 0] 48)) (w.heap.size + 1) 45 #[.int .i64 0, .int .i64 0] := by
  have := (Blk.new (w.alloc (.cells #[.int .i64 q.kind, .string q.job.name, .int .i64 q.job.prio, .int .i64 q.job.need, .int .i64 q.job.tries, .string q.job.tag, .string q.node.name, .int .i64 q.node.room, .string q.node.zone, .string q.lease.job, .string q.lease.node, .int .i64 q.lease.till, .string q.name, .int .i64 q.n] 43)) 45 #[.int .i64 0, .int .i64 0]).alloc (.cells #[.int .i64 0, .int .i64 0, .slice none 0 0, .slice none 0 0, .slice none 0 0, .slice none 0 0, .slice none 0 0, .slice none 0 0] 48)
  rwa [show (w.alloc (.cells #[.int .i64 q.kind, .string q.job.name, .int .i64 q.job.prio, .int .i64 q.job.need, .int .i64 q.job.tries, .string q.job.tag, .string q.node.name, .int .i64 q.node.room, .string q.node.zone, .string q.lease.job, .string q.lease.node, .int .i64 q.lease.till, .string q.name, .int .i64 q.n] 43)).heap.size = w.heap.size + 1 by simp] at this
 have bd0 : Blk (((w.alloc (.cells #[.int .i64 q.kind, .string q.job.name, .int .i64 q.job.prio, .int .i64 q.job.need, .int .i64 q.job.tries, .string q.job.tag, .string q.node.name, .int .i64 q.node.room, .string q.node.zone, .string q.lease.job, .string q.lease.node, .int .i64 q.lease.till, .string q.name, .int .i64 q.n] 43)).alloc (.cells #[.int .i64 0, .int .i64 0] 45)).alloc (.cells #[.int .i64 0, .int .i64 0, .slice none 0 0, .slice none 0 0, .slice none 0 0, .slice none 0 0, .slice none 0 0, .slice none 0 0] 48)) (w.heap.size + 2) 48 #[.int .i64 0, .int .i64 0, .slice none 0 0, .slice none 0 0, .slice none 0 0, .slice none 0 0, .slice none 0 0, .slice none 0 0] := by
  have := Blk.new ((w.alloc (.cells #[.int .i64 q.kind, .string q.job.name, .int .i64 q.job.prio, .int .i64 q.job.need, .int .i64 q.job.tries, .string q.job.tag, .string q.node.name, .int .i64 q.node.room, .string q.node.zone, .string q.lease.job, .string q.lease.node, .int .i64 q.lease.till, .string q.name, .int .i64 q.n] 43)).alloc (.cells #[.int .i64 0, .int .i64 0] 45)) 48 #[.int .i64 0, .int .i64 0, .slice none 0 0, .slice none 0 0, .slice none 0 0, .slice none 0 0, .slice none 0 0, .slice none 0 0]
  rwa [show ((w.alloc (.cells #[.int .i64 q.kind, .string q.job.name, .int .i64 q.job.prio, .int .i64 q.job.need, .int .i64 q.job.tries, .string q.job.tag, .string q.node.name, .int .i64 q.node.room, .string q.node.zone, .string q.lease.job, .string q.lease.node, .int .i64 q.lease.till, .string q.name, .int .i64 q.n] 43)).alloc (.cells #[.int .i64 0, .int .i64 0] 45)).heap.size = w.heap.size + 2 by simp] at this
 have HCk := Lib.hid (fun (W : World) (hW : Below w.heap.size w W) => reqCheck_any q W HS (hT.below hW))
 have HO := Lib.hid (fun (W : World) (hW : Below w.heap.size w W) => svOwn_any v.st q1 q2 q3 d1 d2 d3 W (hM.below hW).m (by have := F.nj; omega) (by have := F.nn; omega) (by have := F.nl; omega))
 have HM := Lib.hid (fun (W : World) (hW : Below w.heap.size w W) => hM.below hW)
 have HT := Lib.hid (fun (W : World) (hW : Below w.heap.size w W) => hT.below hW)
 have z0 : (((reqE q : Nat) : Int) == 0) = false := by rw [beq_eq_false_iff_ne]; omega
 clear hq hT HS hM hv F hnow
 generalize reqE q = n at *
 go_enter Tryz.func10, Tryz.ntmps10
 go_wp2_with (first | (refine wpList_load_blk_w (by rfl) _ _ rfl (w.heap.size) rfl _ _ bq0 _ Tryz.underlying43 rfl request_size ?_))
 generalize ((w.alloc _).alloc _).alloc _ = w0 at *
 refine (HCk.out w0 hb0).mono ?_
 rintro e w1 ⟨rfl, hb1⟩
 have hB1 := hb0.trans (hb1.mono hb0.size)
 have bq1 := bq0.below hb1 bq0.lt
 have br1 := br0.below hb1 br0.lt
 have bd1 := bd0.below hb1 bd0.lt
 have hM1 := HM.out w1 hB1
 have hat1 := hM1.at
 clear hb0 hb1 bq0 br0 bd0 HCk
 go_wp2_with (first | (refine wpList_load_at rfl _ _ rfl ⟨g, 0, none⟩ rfl [Value.int .i64 v.st.rev, Value.slice q1 v.st.jobs.length d1, Value.slice q2 v.st.nodes.length d2, Value.slice q3 v.st.leases.length d3] _ hat1 Tryz.underlying26 rfl state_size ?_))
 refine (HO.out w1 hB1).mono ?_
 rintro e w2 ⟨r1, r2, r3, e1, e2, e3, rfl, hO, hb2⟩
 have hB2 := hB1.trans (hb2.mono hB1.size)
 have hO := hO.less hB1.size
 have bq2 := bq1.below hb2 bq1.lt
 have br2 := br1.below hb2 br1.lt
 have bd2 := bd1.below hb2 bd1.lt
 have hb3 : Below w2.heap.size w2 (w2.alloc (.cells #[.int .i64 v.st.rev, .slice r1 v.st.jobs.length e1, .slice r2 v.st.nodes.length e2, .slice r3 v.st.leases.length e3] 26)) := (Below.refl _ _).alloc (Nat.le_refl _) _
 have hs3 : (w2.alloc (.cells #[.int .i64 v.st.rev, .slice r1 v.st.jobs.length e1, .slice r2 v.st.nodes.length e2, .slice r3 v.st.leases.length e3] 26)).heap.size = w2.heap.size + 1 := by simp
 have hb4 : Below w2.heap.size w2 ((w2.alloc (.cells #[.int .i64 v.st.rev, .slice r1 v.st.jobs.length e1, .slice r2 v.st.nodes.length e2, .slice r3 v.st.leases.length e3] 26)).alloc (.cells #[.pointer (some ⟨w2.heap.size, 0, none⟩), .int .i64 v.now] 70)) := hb3.alloc (by simp) _
 have hw4 : WorkM ((w2.alloc (.cells #[.int .i64 v.st.rev, .slice r1 v.st.jobs.length e1, .slice r2 v.st.nodes.length e2, .slice r3 v.st.leases.length e3] 26)).alloc (.cells #[.pointer (some ⟨w2.heap.size, 0, none⟩), .int .i64 v.now] 70)) w.heap.size w2.heap.size (w2.heap.size + 1) r1 r2 r3 e1 e2 e3 v.st v.now := ⟨by have := Blk.new (w2.alloc (.cells #[.int .i64 v.st.rev, .slice r1 v.st.jobs.length e1, .slice r2 v.st.nodes.length e2, .slice r3 v.st.leases.length e3] 26)) 70 #[.pointer (some ⟨w2.heap.size, 0, none⟩), .int .i64 v.now]; rwa [hs3] at this, (Blk.new w2 26 #[.int .i64 v.st.rev, .slice r1 v.st.jobs.length e1, .slice r2 v.st.nodes.length e2, .slice r3 v.st.leases.length e3]).alloc _, hO.below hb4, hB2.size, Nat.le_succ_of_le hB2.size⟩
 have hB4 := hB2.trans (hb4.mono hB2.size)
 have bq4 := bq2.below hb4 bq2.lt
 have br4 := br2.below hb4 br2.lt
 have bd4 := bd2.below hb4 bd2.lt
 have c4 : (w2.alloc (.cells #[.int .i64 v.st.rev, .slice r1 v.st.jobs.length e1, .slice r2 v.st.nodes.length e2, .slice r3 v.st.leases.length e3] 26)).cell? ⟨g, 4, none⟩ = some (.int .i64 v.now) := (HM.out _ (hB2.trans (hb3.mono hB2.size))).b.cell 4
 clear hO hB1 hb2 hB2 hb4 hb3 bq1 br1 bd1 bq2 br2 bd2 hM1 hat1 HO
 go_upto_region 4 with (first | (refine wpList_store_new rfl _ _ _ rfl rfl 26 _ #[.int .i64 v.st.rev, .slice r1 v.st.jobs.length e1, .slice r2 v.st.nodes.length e2, .slice r3 v.st.leases.length e3] rfl state_size rfl (one_st4 _ _ _ _ _ _ _ _ _ _) ?_))
 clear hs3 c4
 generalize w2.heap.size = gn at *
 generalize (w2.alloc _).alloc _ = w4 at *
 have hM5 := HM.out _ hB4
 go_upto_region 6 with fail
 go_big_quiet (fail)
 have hbn : Below w4.heap.size w4 (w4.drewN nq) := ⟨rfl, rfl, rfl, Nat.le_refl _, fun _ _ => rfl⟩
 have hB6 := hB4.trans (hbn.mono hB4.size)
 have br6 := br4.below hbn br4.lt
 have bd6 := bd4.below hbn bd4.lt
 generalize w4.drewN nq = w6 at *
 go_upto_region 17 with fail
 have hB7 := hB6.alloc hB6.size (.cells #[.int .i64 0, .int .i64 0, .slice none 0 0, .slice none 0 0, .slice none 0 0, .slice none 0 0, .slice none 0 0, .slice none 0 0] 48)
 have br7 := br6.alloc (.cells #[.int .i64 0, .int .i64 0, .slice none 0 0, .slice none 0 0, .slice none 0 0, .slice none 0 0, .slice none 0 0, .slice none 0 0] 48)
 have bd7 := bd6.alloc (.cells #[.int .i64 0, .int .i64 0, .slice none 0 0, .slice none 0 0, .slice none 0 0, .slice none 0 0, .slice none 0 0, .slice none 0 0] 48)
 have bx7 := Blk.new w6 48 #[.int .i64 0, .int .i64 0, .slice none 0 0, .slice none 0 0, .slice none 0 0, .slice none 0 0, .slice none 0 0, .slice none 0 0]
 have hkd := bd6.lt
 have M7 := HM.out _ hB7
 generalize hkx : w6.heap.size = kx at *
 generalize w6.alloc _ = w7 at *
 have G0 : Blk w7.drew g 65 #[.int .i64 v.st.rev, .slice q1 v.st.jobs.length d1, .slice q2 v.st.nodes.length d2, .slice q3 v.st.leases.length d3, .int .i64 v.now] ∧ Blk w7.drew kx 48 #[.int .i64 0, .int .i64 0, .slice none 0 0, .slice none 0 0, .slice none 0 0, .slice none 0 0, .slice none 0 0, .slice none 0 0] := ⟨M7.b.drew, bx7.drew⟩
 have hr1 := br7.drew
 have hd1 := bd7.drew
 refine wp_region_held_drew (S := fun W => Blk W g 65 #[.int .i64 v.st.rev, .slice q1 v.st.jobs.length d1, .slice q2 v.st.nodes.length d2, .slice q3 v.st.leases.length d3, .int .i64 v.now] ∧ Blk W kx 48 #[.int .i64 0, .int .i64 0, .slice none 0 0, .slice none 0 0, .slice none 0 0, .slice none 0 0, .slice none 0 0, .slice none 0 0]) (by kernel_rfl) G0 (fun hHeld => ?_)
 refine tk 0 (v := ?_) rfl (Or.inl ⟨by rfl, ?_⟩) ?_
 rotate_left
 ·(intro w5 hw5; obtain ⟨ha_, hb_⟩ := hw5; have q1 := ha_.cell; have q2 := hb_.cell; go_simp; (try with_reducible rfl))
 (try simp only [Act.put, ma, mb, mc, md, me, mf])
 refine tk 1 (v := ?_) rfl (Or.inl ⟨by rfl, ?_⟩) ?_
 rotate_left
 ·(intro w5 hw5; obtain ⟨ha_, hb_⟩ := hw5; have q1 := ha_.cell; have q2 := hb_.cell; go_simp; (try with_reducible rfl))
 (try simp only [Act.put, ma, mb, mc, md, me, mf])
 refine tk 2 (v := ?_) rfl (Or.inl ⟨by rfl, ?_⟩) ?_
 rotate_left
 ·(intro w5 hw5; obtain ⟨ha_, hb_⟩ := hw5; have q1 := ha_.cell; have q2 := hb_.cell; go_simp; (try with_reducible rfl))
 (try simp only [Act.put, ma, mb, mc, md, me, mf])
 refine tk 3 (v := ?_) rfl (Or.inl ⟨by rfl, ?_⟩) ?_
 rotate_left
 ·(intro w5 hw5; obtain ⟨ha_, hb_⟩ := hw5; have q1 := ha_.cell; have q2 := hb_.cell; go_simp; (try with_reducible rfl))
 (try simp only [Act.put, ma, mb, mc, md, me, mf])
 refine tk 4 (v := ?_) rfl (Or.inl ⟨by rfl, ?_⟩) ?_
 rotate_left
 ·(intro w5 hw5; obtain ⟨ha_, hb_⟩ := hw5; have q1 := ha_.cell; have q2 := hb_.cell; go_simp; (try with_reducible rfl))
 (try simp only [Act.put, ma, mb, mc, md, me, mf])
 refine tk 5 (v := ?_) rfl (Or.inl ⟨by rfl, ?_⟩) ?_
 rotate_left
 ·(intro w5 hw5; obtain ⟨ha_, hb_⟩ := hw5; have q1 := ha_.cell; have q2 := hb_.cell; go_simp; (try with_reducible rfl))
 (try simp only [Act.put, ma, mb, mc, md, me, mf])
 refine tk 6 (v := ?_) rfl (Or.inl ⟨by rfl, ?_⟩) ?_
 rotate_left
 ·(intro w5 hw5; obtain ⟨ha_, hb_⟩ := hw5; have q1 := ha_.cell; have q2 := hb_.cell; go_simp; (try with_reducible rfl))
 (try simp only [Act.put, ma, mb, mc, md, me, mf])
 refine tk 7 (v := ?_) rfl (Or.inl ⟨by rfl, ?_⟩) ?_
 rotate_left
 ·(intro w5 hw5; obtain ⟨ha_, hb_⟩ := hw5; have q1 := ha_.cell; have q2 := hb_.cell; go_simp; (try with_reducible rfl))
 (try simp only [Act.put, ma, mb, mc, md, me, mf])
 refine tk 8 (v := ?_) rfl (Or.inl ⟨by rfl, ?_⟩) ?_
 rotate_left
 ·(intro w5 hw5; obtain ⟨ha_, hb_⟩ := hw5; have q1 := ha_.cell; have q2 := hb_.cell; go_simp; (try with_reducible rfl))
 (try simp only [Act.put, ma, mb, mc, md, me, mf])
 have G1 : Blk (w7.drew.setRow (w.heap.size + 1) #[.int .i64 ((n : Nat) : Int), .int .i64 v.st.rev]) g 65 #[.int .i64 v.st.rev, .slice q1 v.st.jobs.length d1, .slice q2 v.st.nodes.length d2, .slice q3 v.st.leases.length d3, .int .i64 v.now] ∧ Blk (w7.drew.setRow (w.heap.size + 1) #[.int .i64 ((n : Nat) : Int), .int .i64 v.st.rev]) kx 48 #[.int .i64 0, .int .i64 0, .slice none 0 0, .slice none 0 0, .slice none 0 0, .slice none 0 0, .slice none 0 0, .slice none 0 0] := (⟨G0.1.far_row (G0.1.ne_ hr1 (by decide)) #[.int .i64 ((n : Nat) : Int), .int .i64 v.st.rev], G0.2.far_row (G0.2.ne_ hr1 (by decide)) #[.int .i64 ((n : Nat) : Int), .int .i64 v.st.rev]⟩)
 have hd2 := hd1.far_row (hd1.ne_ hr1 (by decide)) #[.int .i64 ((n : Nat) : Int), .int .i64 v.st.rev]
 refine tr 9 rfl (fun K hK => ?_)
 refine step_store_blk rfl _ _ _ rfl (w.heap.size + 1) rfl _ _ #[.int .i64 ((n : Nat) : Int), .int .i64 v.st.rev] hr1 rfl rep_size rfl (one_rep _ _) ?_
 refine hK.out _ _ ?_ (fun hHeld => ?_)
 ·exact G1
 clear hK K
 (try simp only [Act.put, ma, mb, mc, md, me, mf])
 have G2 : Blk ((w7.drew.setRow (w.heap.size + 1) #[.int .i64 ((n : Nat) : Int), .int .i64 v.st.rev]).setRow (w.heap.size + 2) #[.int .i64 0, .int .i64 0, .slice none 0 0, .slice none 0 0, .slice none 0 0, .slice none 0 0, .slice none 0 0, .slice none 0 0]) g 65 #[.int .i64 v.st.rev, .slice q1 v.st.jobs.length d1, .slice q2 v.st.nodes.length d2, .slice q3 v.st.leases.length d3, .int .i64 v.now] ∧ Blk ((w7.drew.setRow (w.heap.size + 1) #[.int .i64 ((n : Nat) : Int), .int .i64 v.st.rev]).setRow (w.heap.size + 2) #[.int .i64 0, .int .i64 0, .slice none 0 0, .slice none 0 0, .slice none 0 0, .slice none 0 0, .slice none 0 0, .slice none 0 0]) kx 48 #[.int .i64 0, .int .i64 0, .slice none 0 0, .slice none 0 0, .slice none 0 0, .slice none 0 0, .slice none 0 0, .slice none 0 0] := ⟨G1.1.far_row (G1.1.ne_ hd2 (by decide)) #[.int .i64 0, .int .i64 0, .slice none 0 0, .slice none 0 0, .slice none 0 0, .slice none 0 0, .slice none 0 0, .slice none 0 0], G1.2.far_row (by omega) #[.int .i64 0, .int .i64 0, .slice none 0 0, .slice none 0 0, .slice none 0 0, .slice none 0 0, .slice none 0 0, .slice none 0 0]⟩
 refine tr 10 rfl (fun K hK => ?_)
 refine step_store_blk rfl _ _ _ rfl (w.heap.size + 2) rfl _ _ #[.int .i64 0, .int .i64 0, .slice none 0 0, .slice none 0 0, .slice none 0 0, .slice none 0 0, .slice none 0 0, .slice none 0 0] hd2 rfl delta_size rfl (one_d8 _ _ _ _ _ _ _ _ _ _ _ _ _ _ _ _ _ _ _ _) ?_
 refine hK.out _ _ ?_ (fun hHeld => ?_)
 ·exact G2
 clear hK K
 (try simp only [Act.put, ma, mb, mc, md, me, mf])
 refine tk 11 (v := ?_) rfl (Or.inl ⟨by rfl, ?_⟩) ?_
 rotate_left
 ·(intro w5 hw5; obtain ⟨ha_, hb_⟩ := hw5; have q1 := ha_.cell; have q2 := hb_.cell; go_simp; (try with_reducible rfl))
 (try simp only [Act.put, ma, mb, mc, md, me, mf])
 refine wpAnyH_done (by kernel_rfl) ?_ _
 have hr3 := (hr1.setRow #[.int .i64 ((n : Nat) : Int), .int .i64 v.st.rev]).far_row ((hr1.setRow #[.int .i64 ((n : Nat) : Int), .int .i64 v.st.rev]).ne_ hd2 (by decide)) #[.int .i64 0, .int .i64 0, .slice none 0 0, .slice none 0 0, .slice none 0 0, .slice none 0 0, .slice none 0 0, .slice none 0 0]
 have hd3 := hd2.setRow #[.int .i64 0, .int .i64 0, .slice none 0 0, .slice none 0 0, .slice none 0 0, .slice none 0 0, .slice none 0 0, .slice none 0 0]
 go_wp2_with fail
 refine bodyPost_ret (results_c2t1 rfl _ rfl hr3 Tryz.underlying45 rfl rep_size rfl hd3 Tryz.underlying48 rfl delta_size) rfl ?_
 obtain ⟨m1, m2⟩ := svDo_fin (c1 := #[.int .i64 ((n : Nat) : Int), .int .i64 v.st.rev]) (c2 := #[.int .i64 0, .int .i64 0, .slice none 0 0, .slice none 0 0, .slice none 0 0, .slice none 0 0, .slice none 0 0, .slice none 0 0]) ⟨q1, q2, q3, d1, d2, d3, M7⟩ (grown_below_s (some g) hB7) (by omega) (by omega) br7 bd7 (by decide) (by decide) (by omega)
 refine ⟨none, none, none, none, none, none, 0, 0, 0, 0, 0, 0, ?_, m1, m2, DelM.nil _ _⟩
 rfl
open Go.RowKit
theorem svDo_bad (q : ReqD) (v : Srv) (g : Nat) (w : World) (hM : SvI w g v) (hv : SrvOk v) (HS : ReqSz q) (hT : Tabs w) (hq : reqE q = 0) (s' : St) (now' : Int) (n : Nat) (hd : doW v q = (⟨s', now'⟩, n)) (hn : n ≠ 0) :
  Calls Tryz.prog 10 #[.pointer (some ⟨g, 0, none⟩), .agg #[.int .i64 q.kind, .string q.job.name, .int .i64 q.job.prio, .int .i64 q.job.need, .int .i64 q.job.tries, .string q.job.tag, .string q.node.name, .int .i64 q.node.room, .string q.node.zone, .string q.lease.job, .string q.lease.node, .int .i64 q.lease.till, .string q.name, .int .i64 q.n]] w fun e w' => SvDoPost w g (⟨n, none, v⟩) e w' := by
 obtain ⟨q1, q2, q3, d1, d2, d3, hM⟩ := hM
 have F := hv.1
 have hnow := hv.2
 have hzr := zero_rep_lit
 have hzd := zero_delta_lit
 have hzs := zero_state_lit
 have hzw := zero_work_lit
 have hb0 : Below w.heap.size w (((w.alloc (.cells #[.int .i64 q.kind, .string q.job.name, .int .i64 q.job.prio, .int .i64 q.job.need, .int .i64 q.job.tries, .string q.job.tag, .string q.node.name, .int .i64 q.node.room, .string q.node.zone, .string q.lease.job, .string q.lease.node, .int .i64 q.lease.till, .string q.name, .int .i64 q.n] 43)).alloc (.cells #[.int .i64 0, .int .i64 0] 45)).alloc (.cells #[.int .i64 0, .int .i64 0, .slice none 0 0, .slice none 0 0, .slice none 0 0, .slice none 0 0, .slice none 0 0, .slice none 0 0] 48)) := (((Below.refl _ _).alloc (Nat.le_refl _) _).alloc (by simp) _).alloc (by simp; omega) _
 have bq0 := ((Blk.new w 43 #[.int .i64 q.kind, .string q.job.name, .int .i64 q.job.prio, .int .i64 q.job.need, .int .i64 q.job.tries, .string q.job.tag, .string q.node.name, .int .i64 q.node.room, .string q.node.zone, .string q.lease.job, .string q.lease.node, .int .i64 q.lease.till, .string q.name, .int .i64 q.n]).alloc (.cells #[.int .i64 0, .int .i64 0] 45)).alloc (.cells #[.int .i64 0, .int .i64 0, .slice none 0 0, .slice none 0 0, .slice none 0 0, .slice none 0 0, .slice none 0 0, .slice none 0 0] 48)
 have br0 : Blk (((w.alloc (.cells #[.int .i64 q.kind, .string q.job.name, .int .i64 q.job.prio, .int .i64 q.job.need, .int .i64 q.job.tries, .string q.job.tag, .string q.node.name, .int .i64 q.node.room, .string q.node.zone, .string q.lease.job, .string q.lease.node, .int .i64 q.lease.till, .string q.name, .int .i64 q.n] 43)).alloc (.cells #[.int .i64 0, .int .i64 0] 45)).alloc (.cells #[.int .i64 0, .int .i64 0, .slice none 0 0, .slice none 0 0, .slice none 0 0, .slice none 0 0, .slice none 0 0, .slice none 0 0] 48)) (w.heap.size + 1) 45 #[.int .i64 0, .int .i64 0] := by
  have := (Blk.new (w.alloc (.cells #[.int .i64 q.kind, .string q.job.name, .int .i64 q.job.prio, .int .i64 q.job.need, .int .i64 q.job.tries, .string q.job.tag, .string q.node.name, .int .i64 q.node.room, .string q.node.zone, .string q.lease.job, .string q.lease.node, .int .i64 q.lease.till, .string q.name, .int .i64 q.n] 43)) 45 #[.int .i64 0, .int .i64 0]).alloc (.cells #[.int .i64 0, .int .i64 0, .slice none 0 0, .slice none 0 0, .slice none 0 0, .slice none 0 0, .slice none 0 0, .slice none 0 0] 48)
  rwa [show (w.alloc (.cells #[.int .i64 q.kind, .string q.job.name, .int .i64 q.job.prio, .int .i64 q.job.need, .int .i64 q.job.tries, .string q.job.tag, .string q.node.name, .int .i64 q.node.room, .string q.node.zone, .string q.lease.job, .string q.lease.node, .int .i64 q.lease.till, .string q.name, .int .i64 q.n] 43)).heap.size = w.heap.size + 1 by simp] at this
 have bd0 : Blk (((w.alloc (.cells #[.int .i64 q.kind, .string q.job.name, .int .i64 q.job.prio, .int .i64 q.job.need, .int .i64 q.job.tries, .string q.job.tag, .string q.node.name, .int .i64 q.node.room, .string q.node.zone, .string q.lease.job, .string q.lease.node, .int .i64 q.lease.till, .string q.name, .int .i64 q.n] 43)).alloc (.cells #[.int .i64 0, .int .i64 0] 45)).alloc (.cells #[.int .i64 0, .int .i64 0, .slice none 0 0, .slice none 0 0, .slice none 0 0, .slice none 0 0, .slice none 0 0, .slice none 0 0] 48)) (w.heap.size + 2) 48 #[.int .i64 0, .int .i64 0, .slice none 0 0, .slice none 0 0, .slice none 0 0, .slice none 0 0, .slice none 0 0, .slice none 0 0] := by
  have := Blk.new ((w.alloc (.cells #[.int .i64 q.kind, .string q.job.name, .int .i64 q.job.prio, .int .i64 q.job.need, .int .i64 q.job.tries, .string q.job.tag, .string q.node.name, .int .i64 q.node.room, .string q.node.zone, .string q.lease.job, .string q.lease.node, .int .i64 q.lease.till, .string q.name, .int .i64 q.n] 43)).alloc (.cells #[.int .i64 0, .int .i64 0] 45)) 48 #[.int .i64 0, .int .i64 0, .slice none 0 0, .slice none 0 0, .slice none 0 0, .slice none 0 0, .slice none 0 0, .slice none 0 0]
  rwa [show ((w.alloc (.cells #[.int .i64 q.kind, .string q.job.name, .int .i64 q.job.prio, .int .i64 q.job.need, .int .i64 q.job.tries, .string q.job.tag, .string q.node.name, .int .i64 q.node.room, .string q.node.zone, .string q.lease.job, .string q.lease.node, .int .i64 q.lease.till, .string q.name, .int .i64 q.n] 43)).alloc (.cells #[.int .i64 0, .int .i64 0] 45)).heap.size = w.heap.size + 2 by simp] at this
 have HCk := Lib.hid (fun (W : World) (hW : Below w.heap.size w W) => reqCheck_any q W HS (hT.below hW))
 have HO := Lib.hid (fun (W : World) (hW : Below w.heap.size w W) => svOwn_any v.st q1 q2 q3 d1 d2 d3 W (hM.below hW).m (by have := F.nj; omega) (by have := F.nn; omega) (by have := F.nl; omega))
 have HM := Lib.hid (fun (W : World) (hW : Below w.heap.size w W) => hM.below hW)
 have HT := Lib.hid (fun (W : World) (hW : Below w.heap.size w W) => hT.below hW)
 rw [hq] at HCk
 have z1 : (((0 : Nat) : Int) == 0) = true := rfl
 have z0 : (((n : Nat) : Int) == 0) = false := by rw [beq_eq_false_iff_ne]; omega
 clear hn hT HS hM hv
 go_enter Tryz.func10, Tryz.ntmps10
 go_wp2_with (first | (refine wpList_load_blk_w (by rfl) _ _ rfl (w.heap.size) rfl _ _ bq0 _ Tryz.underlying43 rfl request_size ?_))
 generalize ((w.alloc _).alloc _).alloc _ = w0 at *
 refine (HCk.out w0 hb0).mono ?_
 rintro e w1 ⟨rfl, hb1⟩
 have hB1 := hb0.trans (hb1.mono hb0.size)
 have bq1 := bq0.below hb1 bq0.lt
 have br1 := br0.below hb1 br0.lt
 have bd1 := bd0.below hb1 bd0.lt
 have hM1 := HM.out w1 hB1
 have hat1 := hM1.at
 clear hb0 hb1 bq0 br0 bd0 HCk
 go_wp2_with (first | (refine wpList_load_at rfl _ _ rfl ⟨g, 0, none⟩ rfl [Value.int .i64 v.st.rev, Value.slice q1 v.st.jobs.length d1, Value.slice q2 v.st.nodes.length d2, Value.slice q3 v.st.leases.length d3] _ hat1 Tryz.underlying26 rfl state_size ?_))
 refine (HO.out w1 hB1).mono ?_
 rintro e w2 ⟨r1, r2, r3, e1, e2, e3, rfl, hO, hb2⟩
 have hB2 := hB1.trans (hb2.mono hB1.size)
 have hO := hO.less hB1.size
 have bq2 := bq1.below hb2 bq1.lt
 have br2 := br1.below hb2 br1.lt
 have bd2 := bd1.below hb2 bd1.lt
 have hb3 : Below w2.heap.size w2 (w2.alloc (.cells #[.int .i64 v.st.rev, .slice r1 v.st.jobs.length e1, .slice r2 v.st.nodes.length e2, .slice r3 v.st.leases.length e3] 26)) := (Below.refl _ _).alloc (Nat.le_refl _) _
 have hs3 : (w2.alloc (.cells #[.int .i64 v.st.rev, .slice r1 v.st.jobs.length e1, .slice r2 v.st.nodes.length e2, .slice r3 v.st.leases.length e3] 26)).heap.size = w2.heap.size + 1 := by simp
 have hb4 : Below w2.heap.size w2 ((w2.alloc (.cells #[.int .i64 v.st.rev, .slice r1 v.st.jobs.length e1, .slice r2 v.st.nodes.length e2, .slice r3 v.st.leases.length e3] 26)).alloc (.cells #[.pointer (some ⟨w2.heap.size, 0, none⟩), .int .i64 v.now] 70)) := hb3.alloc (by simp) _
 have hw4 : WorkM ((w2.alloc (.cells #[.int .i64 v.st.rev, .slice r1 v.st.jobs.length e1, .slice r2 v.st.nodes.length e2, .slice r3 v.st.leases.length e3] 26)).alloc (.cells #[.pointer (some ⟨w2.heap.size, 0, none⟩), .int .i64 v.now] 70)) w.heap.size w2.heap.size (w2.heap.size + 1) r1 r2 r3 e1 e2 e3 v.st v.now := ⟨by have := Blk.new (w2.alloc (.cells #[.int .i64 v.st.rev, .slice r1 v.st.jobs.length e1, .slice r2 v.st.nodes.length e2, .slice r3 v.st.leases.length e3] 26)) 70 #[.pointer (some ⟨w2.heap.size, 0, none⟩), .int .i64 v.now]; rwa [hs3] at this, (Blk.new w2 26 #[.int .i64 v.st.rev, .slice r1 v.st.jobs.length e1, .slice r2 v.st.nodes.length e2, .slice r3 v.st.leases.length e3]).alloc _, hO.below hb4, hB2.size, Nat.le_succ_of_le hB2.size⟩
 have hB4 := hB2.trans (hb4.mono hB2.size)
 have bq4 := bq2.below hb4 bq2.lt
 have br4 := br2.below hb4 br2.lt
 have bd4 := bd2.below hb4 bd2.lt
 have c4 : (w2.alloc (.cells #[.int .i64 v.st.rev, .slice r1 v.st.jobs.length e1, .slice r2 v.st.nodes.length e2, .slice r3 v.st.leases.length e3] 26)).cell? ⟨g, 4, none⟩ = some (.int .i64 v.now) := (HM.out _ (hB2.trans (hb3.mono hB2.size))).b.cell 4
 clear hO hB1 hb2 hB2 hb4 hb3 bq1 br1 bd1 bq2 br2 bd2 hM1 hat1 HO
 go_upto_region 4 with (first | (refine wpList_store_new rfl _ _ _ rfl rfl 26 _ #[.int .i64 v.st.rev, .slice r1 v.st.jobs.length e1, .slice r2 v.st.nodes.length e2, .slice r3 v.st.leases.length e3] rfl state_size rfl (one_st4 _ _ _ _ _ _ _ _ _ _) ?_))
 clear hs3 c4
 generalize w2.heap.size = gn at *
 generalize (w2.alloc _).alloc _ = w4 at *
 have HDo := Lib.hid (do_any q w.heap.size gn (gn + 1) r1 r2 r3 e1 e2 e3 v.st v.now w4 hw4 hB4.size F (fun W hW => HT.out W (hB4.trans hW)) hq hnow)
 rw [hd] at HDo
 have z1 : (((0 : Nat) : Int) == 0) = true := rfl
 clear hw4
 go_wp2_with (first | (refine wpList_load_blk_w (by rfl) _ _ rfl (w.heap.size) rfl _ _ bq4 _ Tryz.underlying43 rfl request_size ?_))
 refine HDo.out.mono ?_
 rintro e w5 ⟨s1, s2, s3, f1, f2, f3, rfl, hw5, hBd, hK, hS⟩
 have hB5 := hB4.trans hBd
 have br5 := hK _ _ _ br4 (by decide) (by decide) (by decide) (by decide) (by decide)
 have bd5 := hK _ _ _ bd4 (by decide) (by decide) (by decide) (by decide) (by decide)
 have hM5 := HM.out _ hB5
 clear HDo hBd hK hS hB4 bq4 br4 bd4 hq
 clear hw5 hM5 z1 hd hnow F
 have hM5 := HM.out _ hB5
 go_upto_region 6 with fail
 go_big_quiet (fail)
 have hbn : Below w5.heap.size w5 (w5.drewN nq) := ⟨rfl, rfl, rfl, Nat.le_refl _, fun _ _ => rfl⟩
 have hB6 := hB5.trans (hbn.mono hB5.size)
 have br6 := br5.below hbn br5.lt
 have bd6 := bd5.below hbn bd5.lt
 generalize w5.drewN nq = w6 at *
 go_upto_region 17 with fail
 have hB7 := hB6.alloc hB6.size (.cells #[.int .i64 0, .int .i64 0, .slice none 0 0, .slice none 0 0, .slice none 0 0, .slice none 0 0, .slice none 0 0, .slice none 0 0] 48)
 have br7 := br6.alloc (.cells #[.int .i64 0, .int .i64 0, .slice none 0 0, .slice none 0 0, .slice none 0 0, .slice none 0 0, .slice none 0 0, .slice none 0 0] 48)
 have bd7 := bd6.alloc (.cells #[.int .i64 0, .int .i64 0, .slice none 0 0, .slice none 0 0, .slice none 0 0, .slice none 0 0, .slice none 0 0, .slice none 0 0] 48)
 have bx7 := Blk.new w6 48 #[.int .i64 0, .int .i64 0, .slice none 0 0, .slice none 0 0, .slice none 0 0, .slice none 0 0, .slice none 0 0, .slice none 0 0]
 have hkd := bd6.lt
 have M7 := HM.out _ hB7
 generalize hkx : w6.heap.size = kx at *
 generalize w6.alloc _ = w7 at *
 have G0 : Blk w7.drew g 65 #[.int .i64 v.st.rev, .slice q1 v.st.jobs.length d1, .slice q2 v.st.nodes.length d2, .slice q3 v.st.leases.length d3, .int .i64 v.now] ∧ Blk w7.drew kx 48 #[.int .i64 0, .int .i64 0, .slice none 0 0, .slice none 0 0, .slice none 0 0, .slice none 0 0, .slice none 0 0, .slice none 0 0] := ⟨M7.b.drew, bx7.drew⟩
 have hr1 := br7.drew
 have hd1 := bd7.drew
 refine wp_region_held_drew (S := fun W => Blk W g 65 #[.int .i64 v.st.rev, .slice q1 v.st.jobs.length d1, .slice q2 v.st.nodes.length d2, .slice q3 v.st.leases.length d3, .int .i64 v.now] ∧ Blk W kx 48 #[.int .i64 0, .int .i64 0, .slice none 0 0, .slice none 0 0, .slice none 0 0, .slice none 0 0, .slice none 0 0, .slice none 0 0]) (by kernel_rfl) G0 (fun hHeld => ?_)
 refine tk 0 (v := ?_) rfl (Or.inl ⟨by rfl, ?_⟩) ?_
 rotate_left
 ·(intro w5 hw5; obtain ⟨ha_, hb_⟩ := hw5; have q1 := ha_.cell; have q2 := hb_.cell; go_simp; (try with_reducible rfl))
 (try simp only [Act.put, ma, mb, mc, md, me, mf])
 refine tk 1 (v := ?_) rfl (Or.inl ⟨by rfl, ?_⟩) ?_
 rotate_left
 ·(intro w5 hw5; obtain ⟨ha_, hb_⟩ := hw5; have q1 := ha_.cell; have q2 := hb_.cell; go_simp; (try with_reducible rfl))
 (try simp only [Act.put, ma, mb, mc, md, me, mf])
 refine tk 2 (v := ?_) rfl (Or.inl ⟨by rfl, ?_⟩) ?_
 rotate_left
 ·(intro w5 hw5; obtain ⟨ha_, hb_⟩ := hw5; have q1 := ha_.cell; have q2 := hb_.cell; go_simp; (try with_reducible rfl))
 (try simp only [Act.put, ma, mb, mc, md, me, mf])
 refine tk 3 (v := ?_) rfl (Or.inl ⟨by rfl, ?_⟩) ?_
 rotate_left
 ·(intro w5 hw5; obtain ⟨ha_, hb_⟩ := hw5; have q1 := ha_.cell; have q2 := hb_.cell; go_simp; (try with_reducible rfl))
 (try simp only [Act.put, ma, mb, mc, md, me, mf])
 refine tk 4 (v := ?_) rfl (Or.inl ⟨by rfl, ?_⟩) ?_
 rotate_left
 ·(intro w5 hw5; obtain ⟨ha_, hb_⟩ := hw5; have q1 := ha_.cell; have q2 := hb_.cell; go_simp; (try with_reducible rfl))
 (try simp only [Act.put, ma, mb, mc, md, me, mf])
 refine tk 5 (v := ?_) rfl (Or.inl ⟨by rfl, ?_⟩) ?_
 rotate_left
 ·(intro w5 hw5; obtain ⟨ha_, hb_⟩ := hw5; have q1 := ha_.cell; have q2 := hb_.cell; go_simp; (try with_reducible rfl))
 (try simp only [Act.put, ma, mb, mc, md, me, mf])
 refine tk 6 (v := ?_) rfl (Or.inl ⟨by rfl, ?_⟩) ?_
 rotate_left
 ·(intro w5 hw5; obtain ⟨ha_, hb_⟩ := hw5; have q1 := ha_.cell; have q2 := hb_.cell; go_simp; (try with_reducible rfl))
 (try simp only [Act.put, ma, mb, mc, md, me, mf])
 refine tk 7 (v := ?_) rfl (Or.inl ⟨by rfl, ?_⟩) ?_
 rotate_left
 ·(intro w5 hw5; obtain ⟨ha_, hb_⟩ := hw5; have q1 := ha_.cell; have q2 := hb_.cell; go_simp; (try with_reducible rfl))
 (try simp only [Act.put, ma, mb, mc, md, me, mf])
 refine tk 8 (v := ?_) rfl (Or.inl ⟨by rfl, ?_⟩) ?_
 rotate_left
 ·(intro w5 hw5; obtain ⟨ha_, hb_⟩ := hw5; have q1 := ha_.cell; have q2 := hb_.cell; go_simp; (try with_reducible rfl))
 (try simp only [Act.put, ma, mb, mc, md, me, mf])
 have G1 : Blk (w7.drew.setRow (w.heap.size + 1) #[.int .i64 ((n : Nat) : Int), .int .i64 v.st.rev]) g 65 #[.int .i64 v.st.rev, .slice q1 v.st.jobs.length d1, .slice q2 v.st.nodes.length d2, .slice q3 v.st.leases.length d3, .int .i64 v.now] ∧ Blk (w7.drew.setRow (w.heap.size + 1) #[.int .i64 ((n : Nat) : Int), .int .i64 v.st.rev]) kx 48 #[.int .i64 0, .int .i64 0, .slice none 0 0, .slice none 0 0, .slice none 0 0, .slice none 0 0, .slice none 0 0, .slice none 0 0] := (⟨G0.1.far_row (G0.1.ne_ hr1 (by decide)) #[.int .i64 ((n : Nat) : Int), .int .i64 v.st.rev], G0.2.far_row (G0.2.ne_ hr1 (by decide)) #[.int .i64 ((n : Nat) : Int), .int .i64 v.st.rev]⟩)
 have hd2 := hd1.far_row (hd1.ne_ hr1 (by decide)) #[.int .i64 ((n : Nat) : Int), .int .i64 v.st.rev]
 refine tr 9 rfl (fun K hK => ?_)
 refine step_store_blk rfl _ _ _ rfl (w.heap.size + 1) rfl _ _ #[.int .i64 ((n : Nat) : Int), .int .i64 v.st.rev] hr1 rfl rep_size rfl (one_rep _ _) ?_
 refine hK.out _ _ ?_ (fun hHeld => ?_)
 ·exact G1
 clear hK K
 (try simp only [Act.put, ma, mb, mc, md, me, mf])
 have G2 : Blk ((w7.drew.setRow (w.heap.size + 1) #[.int .i64 ((n : Nat) : Int), .int .i64 v.st.rev]).setRow (w.heap.size + 2) #[.int .i64 0, .int .i64 0, .slice none 0 0, .slice none 0 0, .slice none 0 0, .slice none 0 0, .slice none 0 0, .slice none 0 0]) g 65 #[.int .i64 v.st.rev, .slice q1 v.st.jobs.length d1, .slice q2 v.st.nodes.length d2, .slice q3 v.st.leases.length d3, .int .i64 v.now] ∧ Blk ((w7.drew.setRow (w.heap.size + 1) #[.int .i64 ((n : Nat) : Int), .int .i64 v.st.rev]).setRow (w.heap.size + 2) #[.int .i64 0, .int .i64 0, .slice none 0 0, .slice none 0 0, .slice none 0 0, .slice none 0 0, .slice none 0 0, .slice none 0 0]) kx 48 #[.int .i64 0, .int .i64 0, .slice none 0 0, .slice none 0 0, .slice none 0 0, .slice none 0 0, .slice none 0 0, .slice none 0 0] := ⟨G1.1.far_row (G1.1.ne_ hd2 (by decide)) #[.int .i64 0, .int .i64 0, .slice none 0 0, .slice none 0 0, .slice none 0 0, .slice none 0 0, .slice none 0 0, .slice none 0 0], G1.2.far_row (by omega) #[.int .i64 0, .int .i64 0, .slice none 0 0, .slice none 0 0, .slice none 0 0, .slice none 0 0, .slice none 0 0, .slice none 0 0]⟩
 refine tr 10 rfl (fun K hK => ?_)
 refine step_store_blk rfl _ _ _ rfl (w.heap.size + 2) rfl _ _ #[.int .i64 0, .int .i64 0, .slice none 0 0, .slice none 0 0, .slice none 0 0, .slice none 0 0, .slice none 0 0, .slice none 0 0] hd2 rfl delta_size rfl (one_d8 _ _ _ _ _ _ _ _ _ _ _ _ _ _ _ _ _ _ _ _) ?_
 refine hK.out _ _ ?_ (fun hHeld => ?_)
 ·exact G2
 clear hK K
 (try simp only [Act.put, ma, mb, mc, md, me, mf])
 refine tk 11 (v := ?_) rfl (Or.inl ⟨by rfl, ?_⟩) ?_
 rotate_left
 ·(intro w5 hw5; obtain ⟨ha_, hb_⟩ := hw5; have q1 := ha_.cell; have q2 := hb_.cell; go_simp; (try with_reducible rfl))
 (try simp only [Act.put, ma, mb, mc, md, me, mf])
 refine wpAnyH_done (by kernel_rfl) ?_ _
 have hr3 := (hr1.setRow #[.int .i64 ((n : Nat) : Int), .int .i64 v.st.rev]).far_row ((hr1.setRow #[.int .i64 ((n : Nat) : Int), .int .i64 v.st.rev]).ne_ hd2 (by decide)) #[.int .i64 0, .int .i64 0, .slice none 0 0, .slice none 0 0, .slice none 0 0, .slice none 0 0, .slice none 0 0, .slice none 0 0]
 have hd3 := hd2.setRow #[.int .i64 0, .int .i64 0, .slice none 0 0, .slice none 0 0, .slice none 0 0, .slice none 0 0, .slice none 0 0, .slice none 0 0]
 go_wp2_with fail
 refine bodyPost_ret (results_c2t1 rfl _ rfl hr3 Tryz.underlying45 rfl rep_size rfl hd3 Tryz.underlying48 rfl delta_size) rfl ?_
 obtain ⟨m1, m2⟩ := svDo_fin (c1 := #[.int .i64 ((n : Nat) : Int), .int .i64 v.st.rev]) (c2 := #[.int .i64 0, .int .i64 0, .slice none 0 0, .slice none 0 0, .slice none 0 0, .slice none 0 0, .slice none 0 0, .slice none 0 0]) ⟨q1, q2, q3, d1, d2, d3, M7⟩ (grown_below_s (some g) hB7) (by omega) (by omega) br7 bd7 (by decide) (by decide) (by omega)
 refine ⟨none, none, none, none, none, none, 0, 0, 0, 0, 0, 0, ?_, m1, m2, DelM.nil _ _⟩
 rfl
open Go.RowKit
theorem svDo_same (q : ReqD) (v : Srv) (g : Nat) (w : World) (hM : SvI w g v) (hv : SrvOk v) (HS : ReqSz q) (hT : Tabs w) (hq : reqE q = 0) (s' : St) (now' : Int) (hd : doW v q = (⟨s', now'⟩, 0)) (hs : sameT v.st s' = true) :
  Calls Tryz.prog 10 #[.pointer (some ⟨g, 0, none⟩), .agg #[.int .i64 q.kind, .string q.job.name, .int .i64 q.job.prio, .int .i64 q.job.need, .int .i64 q.job.tries, .string q.job.tag, .string q.node.name, .int .i64 q.node.room, .string q.node.zone, .string q.lease.job, .string q.lease.node, .int .i64 q.lease.till, .string q.name, .int .i64 q.n]] w fun e w' => SvDoPost w g (⟨0, none, ⟨v.st, now'⟩⟩) e w' := by
 have F' : Fine s' := (doN_s hv hq hd).1
 have HREV := Lib.hid (show s'.rev = v.st.rev from (doN_s hv hq hd).2)
 obtain ⟨q1, q2, q3, d1, d2, d3, hM⟩ := hM
 have F := hv.1
 have hnow := hv.2
 have hzr := zero_rep_lit
 have hzd := zero_delta_lit
 have hzs := zero_state_lit
 have hzw := zero_work_lit
 have hb0 : Below w.heap.size w (((w.alloc (.cells #[.int .i64 q.kind, .string q.job.name, .int .i64 q.job.prio, .int .i64 q.job.need, .int .i64 q.job.tries, .string q.job.tag, .string q.node.name, .int .i64 q.node.room, .string q.node.zone, .string q.lease.job, .string q.lease.node, .int .i64 q.lease.till, .string q.name, .int .i64 q.n] 43)).alloc (.cells #[.int .i64 0, .int .i64 0] 45)).alloc (.cells #[.int .i64 0, .int .i64 0, .slice none 0 0, .slice none 0 0, .slice none 0 0, .slice none 0 0, .slice none 0 0, .slice none 0 0] 48)) := (((Below.refl _ _).alloc (Nat.le_refl _) _).alloc (by simp) _).alloc (by simp; omega) _
 have bq0 := ((Blk.new w 43 #[.int .i64 q.kind, .string q.job.name, .int .i64 q.job.prio, .int .i64 q.job.need, .int .i64 q.job.tries, .string q.job.tag, .string q.node.name, .int .i64 q.node.room, .string q.node.zone, .string q.lease.job, .string q.lease.node, .int .i64 q.lease.till, .string q.name, .int .i64 q.n]).alloc (.cells #[.int .i64 0, .int .i64 0] 45)).alloc (.cells #[.int .i64 0, .int .i64 0, .slice none 0 0, .slice none 0 0, .slice none 0 0, .slice none 0 0, .slice none 0 0, .slice none 0 0] 48)
 have br0 : Blk (((w.alloc (.cells #[.int .i64 q.kind, .string q.job.name, .int .i64 q.job.prio, .int .i64 q.job.need, .int .i64 q.job.tries, .string q.job.tag, .string q.node.name, .int .i64 q.node.room, .string q.node.zone, .string q.lease.job, .string q.lease.node, .int .i64 q.lease.till, .string q.name, .int .i64 q.n] 43)).alloc (.cells #[.int .i64 0, .int .i64 0] 45)).alloc (.cells #[.int .i64 0, .int .i64 0, .slice none 0 0, .slice none 0 0, .slice none 0 0, .slice none 0 0, .slice none 0 0, .slice none 0 0] 48)) (w.heap.size + 1) 45 #[.int .i64 0, .int .i64 0] := by
  have := (Blk.new (w.alloc (.cells #[.int .i64 q.kind, .string q.job.name, .int .i64 q.job.prio, .int .i64 q.job.need, .int .i64 q.job.tries, .string q.job.tag, .string q.node.name, .int .i64 q.node.room, .string q.node.zone, .string q.lease.job, .string q.lease.node, .int .i64 q.lease.till, .string q.name, .int .i64 q.n] 43)) 45 #[.int .i64 0, .int .i64 0]).alloc (.cells #[.int .i64 0, .int .i64 0, .slice none 0 0, .slice none 0 0, .slice none 0 0, .slice none 0 0, .slice none 0 0, .slice none 0 0] 48)
  rwa [show (w.alloc (.cells #[.int .i64 q.kind, .string q.job.name, .int .i64 q.job.prio, .int .i64 q.job.need, .int .i64 q.job.tries, .string q.job.tag, .string q.node.name, .int .i64 q.node.room, .string q.node.zone, .string q.lease.job, .string q.lease.node, .int .i64 q.lease.till, .string q.name, .int .i64 q.n] 43)).heap.size = w.heap.size + 1 by simp] at this
 have bd0 : Blk (((w.alloc (.cells #[.int .i64 q.kind, .string q.job.name, .int .i64 q.job.prio, .int .i64 q.job.need, .int .i64 q.job.tries, .string q.job.tag, .string q.node.name, .int .i64 q.node.room, .string q.node.zone, .string q.lease.job, .string q.lease.node, .int .i64 q.lease.till, .string q.name, .int .i64 q.n] 43)).alloc (.cells #[.int .i64 0, .int .i64 0] 45)).alloc (.cells #[.int .i64 0, .int .i64 0, .slice none 0 0, .slice none 0 0, .slice none 0 0, .slice none 0 0, .slice none 0 0, .slice none 0 0] 48)) (w.heap.size + 2) 48 #[.int .i64 0, .int .i64 0, .slice none 0 0, .slice none 0 0, .slice none 0 0, .slice none 0 0, .slice none 0 0, .slice none 0 0] := by
  have := Blk.new ((w.alloc (.cells #[.int .i64 q.kind, .string q.job.name, .int .i64 q.job.prio, .int .i64 q.job.need, .int .i64 q.job.tries, .string q.job.tag, .string q.node.name, .int .i64 q.node.room, .string q.node.zone, .string q.lease.job, .string q.lease.node, .int .i64 q.lease.till, .string q.name, .int .i64 q.n] 43)).alloc (.cells #[.int .i64 0, .int .i64 0] 45)) 48 #[.int .i64 0, .int .i64 0, .slice none 0 0, .slice none 0 0, .slice none 0 0, .slice none 0 0, .slice none 0 0, .slice none 0 0]
  rwa [show ((w.alloc (.cells #[.int .i64 q.kind, .string q.job.name, .int .i64 q.job.prio, .int .i64 q.job.need, .int .i64 q.job.tries, .string q.job.tag, .string q.node.name, .int .i64 q.node.room, .string q.node.zone, .string q.lease.job, .string q.lease.node, .int .i64 q.lease.till, .string q.name, .int .i64 q.n] 43)).alloc (.cells #[.int .i64 0, .int .i64 0] 45)).heap.size = w.heap.size + 2 by simp] at this
 have HCk := Lib.hid (fun (W : World) (hW : Below w.heap.size w W) => reqCheck_any q W HS (hT.below hW))
 have HO := Lib.hid (fun (W : World) (hW : Below w.heap.size w W) => svOwn_any v.st q1 q2 q3 d1 d2 d3 W (hM.below hW).m (by have := F.nj; omega) (by have := F.nn; omega) (by have := F.nl; omega))
 have HM := Lib.hid (fun (W : World) (hW : Below w.heap.size w W) => hM.below hW)
 have HT := Lib.hid (fun (W : World) (hW : Below w.heap.size w W) => hT.below hW)
 rw [hq] at HCk
 have z1 : (((0 : Nat) : Int) == 0) = true := rfl
 have hlg := hM.b.lt
 clear hT HS hM hv
 go_enter Tryz.func10, Tryz.ntmps10
 go_wp2_with (first | (refine wpList_load_blk_w (by rfl) _ _ rfl (w.heap.size) rfl _ _ bq0 _ Tryz.underlying43 rfl request_size ?_))
 generalize ((w.alloc _).alloc _).alloc _ = w0 at *
 refine (HCk.out w0 hb0).mono ?_
 rintro e w1 ⟨rfl, hb1⟩
 have hB1 := hb0.trans (hb1.mono hb0.size)
 have bq1 := bq0.below hb1 bq0.lt
 have br1 := br0.below hb1 br0.lt
 have bd1 := bd0.below hb1 bd0.lt
 have hM1 := HM.out w1 hB1
 have hat1 := hM1.at
 clear hb0 hb1 bq0 br0 bd0 HCk
 go_wp2_with (first | (refine wpList_load_at rfl _ _ rfl ⟨g, 0, none⟩ rfl [Value.int .i64 v.st.rev, Value.slice q1 v.st.jobs.length d1, Value.slice q2 v.st.nodes.length d2, Value.slice q3 v.st.leases.length d3] _ hat1 Tryz.underlying26 rfl state_size ?_))
 refine (HO.out w1 hB1).mono ?_
 rintro e w2 ⟨r1, r2, r3, e1, e2, e3, rfl, hO, hb2⟩
 have hB2 := hB1.trans (hb2.mono hB1.size)
 have hO := hO.less hB1.size
 have bq2 := bq1.below hb2 bq1.lt
 have br2 := br1.below hb2 br1.lt
 have bd2 := bd1.below hb2 bd1.lt
 have hb3 : Below w2.heap.size w2 (w2.alloc (.cells #[.int .i64 v.st.rev, .slice r1 v.st.jobs.length e1, .slice r2 v.st.nodes.length e2, .slice r3 v.st.leases.length e3] 26)) := (Below.refl _ _).alloc (Nat.le_refl _) _
 have hs3 : (w2.alloc (.cells #[.int .i64 v.st.rev, .slice r1 v.st.jobs.length e1, .slice r2 v.st.nodes.length e2, .slice r3 v.st.leases.length e3] 26)).heap.size = w2.heap.size + 1 := by simp
 have hb4 : Below w2.heap.size w2 ((w2.alloc (.cells #[.int .i64 v.st.rev, .slice r1 v.st.jobs.length e1, .slice r2 v.st.nodes.length e2, .slice r3 v.st.leases.length e3] 26)).alloc (.cells #[.pointer (some ⟨w2.heap.size, 0, none⟩), .int .i64 v.now] 70)) := hb3.alloc (by simp) _
 have hw4 : WorkM ((w2.alloc (.cells #[.int .i64 v.st.rev, .slice r1 v.st.jobs.length e1, .slice r2 v.st.nodes.length e2, .slice r3 v.st.leases.length e3] 26)).alloc (.cells #[.pointer (some ⟨w2.heap.size, 0, none⟩), .int .i64 v.now] 70)) w.heap.size w2.heap.size (w2.heap.size + 1) r1 r2 r3 e1 e2 e3 v.st v.now := ⟨by have := Blk.new (w2.alloc (.cells #[.int .i64 v.st.rev, .slice r1 v.st.jobs.length e1, .slice r2 v.st.nodes.length e2, .slice r3 v.st.leases.length e3] 26)) 70 #[.pointer (some ⟨w2.heap.size, 0, none⟩), .int .i64 v.now]; rwa [hs3] at this, (Blk.new w2 26 #[.int .i64 v.st.rev, .slice r1 v.st.jobs.length e1, .slice r2 v.st.nodes.length e2, .slice r3 v.st.leases.length e3]).alloc _, hO.below hb4, hB2.size, Nat.le_succ_of_le hB2.size⟩
 have hB4 := hB2.trans (hb4.mono hB2.size)
 have bq4 := bq2.below hb4 bq2.lt
 have br4 := br2.below hb4 br2.lt
 have bd4 := bd2.below hb4 bd2.lt
 have c4 : (w2.alloc (.cells #[.int .i64 v.st.rev, .slice r1 v.st.jobs.length e1, .slice r2 v.st.nodes.length e2, .slice r3 v.st.leases.length e3] 26)).cell? ⟨g, 4, none⟩ = some (.int .i64 v.now) := (HM.out _ (hB2.trans (hb3.mono hB2.size))).b.cell 4
 clear hO hB1 hb2 hB2 hb4 hb3 bq1 br1 bd1 bq2 br2 bd2 hM1 hat1 HO
 go_upto_region 4 with (first | (refine wpList_store_new rfl _ _ _ rfl rfl 26 _ #[.int .i64 v.st.rev, .slice r1 v.st.jobs.length e1, .slice r2 v.st.nodes.length e2, .slice r3 v.st.leases.length e3] rfl state_size rfl (one_st4 _ _ _ _ _ _ _ _ _ _) ?_))
 clear hs3 c4
 generalize w2.heap.size = gn at *
 generalize (w2.alloc _).alloc _ = w4 at *
 have HDo := Lib.hid (do_any q w.heap.size gn (gn + 1) r1 r2 r3 e1 e2 e3 v.st v.now w4 hw4 hB4.size F (fun W hW => HT.out W (hB4.trans hW)) hq hnow)
 rw [hd] at HDo
 have z1 : (((0 : Nat) : Int) == 0) = true := rfl
 clear hw4
 go_wp2_with (first | (refine wpList_load_blk_w (by rfl) _ _ rfl (w.heap.size) rfl _ _ bq4 _ Tryz.underlying43 rfl request_size ?_))
 refine HDo.out.mono ?_
 rintro e w5 ⟨s1, s2, s3, f1, f2, f3, rfl, hw5, hBd, hK, hS⟩
 have hB5 := hB4.trans hBd
 have br5 := hK _ _ _ br4 (by decide) (by decide) (by decide) (by decide) (by decide)
 have bd5 := hK _ _ _ bd4 (by decide) (by decide) (by decide) (by decide) (by decide)
 have hM5 := HM.out _ hB5
 clear HDo hBd hK hS hB4 bq4 br4 bd4 hq
 go_upto_region 6 with fail
 have HSm := Lib.hid (fun (W : World) (hW : Below w5.heap.size w5 W) => svSame_any v.st s' q1 q2 q3 s1 s2 s3 d1 d2 d3 f1 f2 f3 W ((hM5.below hW).m) ((hw5.own.below hW).m) F.sz F'.sz)
 rw [hs] at HSm
 have G0 : Blk w5.drew g 65 #[.int .i64 v.st.rev, .slice q1 v.st.jobs.length d1, .slice q2 v.st.nodes.length d2, .slice q3 v.st.leases.length d3, .int .i64 v.now] ∧ Blk w5.drew gn 26 #[.int .i64 s'.rev, .slice s1 s'.jobs.length f1, .slice s2 s'.nodes.length f2, .slice s3 s'.leases.length f3] := ⟨hM5.b.drew, hw5.bn.drew⟩
 refine wp_region_held_drew (S := fun W => Blk W g 65 #[.int .i64 v.st.rev, .slice q1 v.st.jobs.length d1, .slice q2 v.st.nodes.length d2, .slice q3 v.st.leases.length d3, .int .i64 v.now] ∧ Blk W gn 26 #[.int .i64 s'.rev, .slice s1 s'.jobs.length f1, .slice s2 s'.nodes.length f2, .slice s3 s'.leases.length f3]) (by kernel_rfl) G0 (fun hHeld => ?_)
 refine tk 0 (v := ?_) rfl (Or.inl ⟨by rfl, ?_⟩) ?_
 rotate_left
 ·(intro w5_ hw5_; obtain ⟨ha_, hb_⟩ := hw5_; have q1 := ha_.cell; have q2 := hb_.cell; go_simp; (try with_reducible rfl))
 (try simp only [Act.put, ma, mb, mc, md, me, mf])
 refine tk 1 (v := ?_) rfl (Or.inl ⟨by rfl, ?_⟩) ?_
 rotate_left
 ·(intro w5_ hw5_; obtain ⟨ha_, hb_⟩ := hw5_; have q1 := ha_.cell; have q2 := hb_.cell; go_simp; (try with_reducible rfl))
 (try simp only [Act.put, ma, mb, mc, md, me, mf])
 refine tk 2 (v := ?_) rfl (Or.inl ⟨by rfl, ?_⟩) ?_
 rotate_left
 ·(intro w5_ hw5_; obtain ⟨ha_, hb_⟩ := hw5_; have q1 := ha_.cell; have q2 := hb_.cell; go_simp; (try with_reducible rfl))
 (try simp only [Act.put, ma, mb, mc, md, me, mf])
 refine tk 3 (v := ?_) rfl (Or.inl ⟨by rfl, ?_⟩) ?_
 rotate_left
 ·(intro w5_ hw5_; obtain ⟨ha_, hb_⟩ := hw5_; have q1 := ha_.cell; have q2 := hb_.cell; go_simp; (try with_reducible rfl))
 (try simp only [Act.put, ma, mb, mc, md, me, mf])
 refine tk 4 (v := ?_) rfl (Or.inl ⟨by rfl, ?_⟩) ?_
 rotate_left
 ·(intro w5_ hw5_; obtain ⟨ha_, hb_⟩ := hw5_; have q1 := ha_.cell; have q2 := hb_.cell; go_simp; (try with_reducible rfl))
 (try simp only [Act.put, ma, mb, mc, md, me, mf])
 refine tk 5 (v := ?_) rfl (Or.inl ⟨by rfl, ?_⟩) ?_
 rotate_left
 ·(intro w5_ hw5_; obtain ⟨ha_, hb_⟩ := hw5_; have q1 := ha_.cell; have q2 := hb_.cell; go_simp; (try with_reducible rfl))
 (try simp only [Act.put, ma, mb, mc, md, me, mf])
 refine tk 6 (v := ?_) rfl (Or.inl ⟨by rfl, ?_⟩) ?_
 rotate_left
 ·(intro w5_ hw5_; obtain ⟨ha_, hb_⟩ := hw5_; have q1 := ha_.cell; have q2 := hb_.cell; go_simp; (try with_reducible rfl))
 (try simp only [Act.put, ma, mb, mc, md, me, mf])
 refine tk 7 (v := ?_) rfl (Or.inl ⟨by rfl, ?_⟩) ?_
 rotate_left
 ·(intro w5_ hw5_; obtain ⟨ha_, hb_⟩ := hw5_; have q1 := ha_.cell; have q2 := hb_.cell; go_simp; (try with_reducible rfl))
 (try simp only [Act.put, ma, mb, mc, md, me, mf])
 refine tr 8 rfl (fun K hK => ?_)
 go_simp
 refine (HSm.out w5.drew (Below.refl _ w5).drew).mono ?_
 rintro e w6 ⟨rfl, hb6⟩
 have hb56 : Below w5.heap.size w5 w6 := (Below.refl _ w5).drew.trans hb6
 have G1 : Blk w6 g 65 #[.int .i64 v.st.rev, .slice q1 v.st.jobs.length d1, .slice q2 v.st.nodes.length d2, .slice q3 v.st.leases.length d3, .int .i64 v.now] ∧ Blk w6 gn 26 #[.int .i64 s'.rev, .slice s1 s'.jobs.length f1, .slice s2 s'.nodes.length f2, .slice s3 s'.leases.length f3] := ⟨G0.1.below hb6 G0.1.lt, G0.2.below hb6 G0.2.lt⟩
 clear hb6
 refine hK.out _ _ ?_ (fun hHeld => ?_)
 ·exact G1
 clear hK K
 (try simp only [Act.put, ma, mb, mc, md, me, mf])
 refine tk 9 (v := ?_) rfl (Or.inl ⟨by rfl, ?_⟩) ?_
 rotate_left
 ·(intro w5_ hw5_; obtain ⟨ha_, hb_⟩ := hw5_; have q1 := ha_.cell; have q2 := hb_.cell; go_simp; (try with_reducible rfl))
 (try simp only [Act.put, ma, mb, mc, md, me, mf])
 refine tk 10 (v := ?_) rfl (Or.inl ⟨by rfl, ?_⟩) ?_
 rotate_left
 ·(intro w5_ hw5_; obtain ⟨ha_, hb_⟩ := hw5_; have q1 := ha_.cell; have q2 := hb_.cell; go_simp; (try with_reducible rfl))
 (try simp only [Act.put, ma, mb, mc, md, me, mf])
 refine tk 11 (v := ?_) rfl (Or.inl ⟨by rfl, ?_⟩) ?_
 rotate_left
 ·(intro w5_ hw5_; obtain ⟨ha_, hb_⟩ := hw5_; have q1 := ha_.cell; have q2 := hb_.cell; go_simp; (try with_reducible rfl))
 (try simp only [Act.put, ma, mb, mc, md, me, mf])
 refine wpAnyH_done (by kernel_rfl) ?_ _
 have hB6 := hB5.trans (hb56.mono hB5.size)
 have br6 := br5.below hb56 br5.lt
 have bd6 := bd5.below hb56 bd5.lt
 have hw6 := hw5.below hb56
 have hM6 := hM5.below hb56
 clear G0 hHeld G1 HSm hb56 br5 bd5 hw5 hM5 hB5
 go_upto_region 16 with fail
 have hB7 := hB6.alloc hB6.size (.cells #[.int .i64 0, .int .i64 0, .slice none 0 0, .slice none 0 0, .slice none 0 0, .slice none 0 0, .slice none 0 0, .slice none 0 0] 48)
 have br7 := br6.alloc (.cells #[.int .i64 0, .int .i64 0, .slice none 0 0, .slice none 0 0, .slice none 0 0, .slice none 0 0, .slice none 0 0, .slice none 0 0] 48)
 have bd7 := bd6.alloc (.cells #[.int .i64 0, .int .i64 0, .slice none 0 0, .slice none 0 0, .slice none 0 0, .slice none 0 0, .slice none 0 0, .slice none 0 0] 48)
 have bx7 := Blk.new w6 48 #[.int .i64 0, .int .i64 0, .slice none 0 0, .slice none 0 0, .slice none 0 0, .slice none 0 0, .slice none 0 0, .slice none 0 0]
 have hkd := bd6.lt
 have M7 := HM.out _ hB7
 have bw7 := hw6.bw.alloc (.cells #[.int .i64 0, .int .i64 0, .slice none 0 0, .slice none 0 0, .slice none 0 0, .slice none 0 0, .slice none 0 0, .slice none 0 0] 48)
 generalize hkx : w6.heap.size = kx at *
 generalize w6.alloc _ = w7 at *
 have x1 : w7.cell? ⟨gn + 1, 1, none⟩ = some (.int .i64 now') := bw7.cell 1
 have x2 : w7.cell? ⟨g, 4, none⟩ = some (.int .i64 v.now) := M7.b.cell 4
 have x3 : w7.frozen? ⟨g, 4, none⟩ = false := M7.b.frozen 4
 go_upto_region 17 with fail
 clear x1 x2 x3
 have gc := grow_cell w7 g 4 (.int .i64 now')
 have M8 := M7.setNow now'
 have g8 : w.grownBy (w7.setCell ⟨g, 4, none⟩ (.int .i64 now')) (some g) := GrB.then2 (grown_below_s (some g) hB7) gc
 have br8 := GrB.blk gc br7 (br7.ne_ M7.b (by decide))
 have bd8 := GrB.blk gc bd7 (bd7.ne_ M7.b (by decide))
 have bx8 := GrB.blk gc bx7 (bx7.ne_ M7.b (by decide))
 clear gc bw7 hw6 hM6 M7 br7 bd7 bx7 br6 bd6 hB6
 generalize w7.setCell _ _ = w8 at *
 have G0 : Blk w8.drew g 65 #[.int .i64 v.st.rev, .slice q1 v.st.jobs.length d1, .slice q2 v.st.nodes.length d2, .slice q3 v.st.leases.length d3, .int .i64 now'] ∧ Blk w8.drew kx 48 #[.int .i64 0, .int .i64 0, .slice none 0 0, .slice none 0 0, .slice none 0 0, .slice none 0 0, .slice none 0 0, .slice none 0 0] := ⟨M8.b.drew, bx8.drew⟩
 have hr1 := br8.drew
 have hd1 := bd8.drew
 refine wp_region_held_drew (S := fun W => Blk W g 65 #[.int .i64 v.st.rev, .slice q1 v.st.jobs.length d1, .slice q2 v.st.nodes.length d2, .slice q3 v.st.leases.length d3, .int .i64 now'] ∧ Blk W kx 48 #[.int .i64 0, .int .i64 0, .slice none 0 0, .slice none 0 0, .slice none 0 0, .slice none 0 0, .slice none 0 0, .slice none 0 0]) (by kernel_rfl) G0 (fun hHeld => ?_)
 refine tk 0 (v := ?_) rfl (Or.inl ⟨by rfl, ?_⟩) ?_
 rotate_left
 ·(intro w5 hw5; obtain ⟨ha_, hb_⟩ := hw5; have q1 := ha_.cell; have q2 := hb_.cell; go_simp; (try with_reducible rfl))
 (try simp only [Act.put, ma, mb, mc, md, me, mf])
 refine tk 1 (v := ?_) rfl (Or.inl ⟨by rfl, ?_⟩) ?_
 rotate_left
 ·(intro w5 hw5; obtain ⟨ha_, hb_⟩ := hw5; have q1 := ha_.cell; have q2 := hb_.cell; go_simp; (try with_reducible rfl))
 (try simp only [Act.put, ma, mb, mc, md, me, mf])
 refine tk 2 (v := ?_) rfl (Or.inl ⟨by rfl, ?_⟩) ?_
 rotate_left
 ·(intro w5 hw5; obtain ⟨ha_, hb_⟩ := hw5; have q1 := ha_.cell; have q2 := hb_.cell; go_simp; (try with_reducible rfl))
 (try simp only [Act.put, ma, mb, mc, md, me, mf])
 refine tk 3 (v := ?_) rfl (Or.inl ⟨by rfl, ?_⟩) ?_
 rotate_left
 ·(intro w5 hw5; obtain ⟨ha_, hb_⟩ := hw5; have q1 := ha_.cell; have q2 := hb_.cell; go_simp; (try with_reducible rfl))
 (try simp only [Act.put, ma, mb, mc, md, me, mf])
 refine tk 4 (v := ?_) rfl (Or.inl ⟨by rfl, ?_⟩) ?_
 rotate_left
 ·(intro w5 hw5; obtain ⟨ha_, hb_⟩ := hw5; have q1 := ha_.cell; have q2 := hb_.cell; go_simp; (try with_reducible rfl))
 (try simp only [Act.put, ma, mb, mc, md, me, mf])
 refine tk 5 (v := ?_) rfl (Or.inl ⟨by rfl, ?_⟩) ?_
 rotate_left
 ·(intro w5 hw5; obtain ⟨ha_, hb_⟩ := hw5; have q1 := ha_.cell; have q2 := hb_.cell; go_simp; (try with_reducible rfl))
 (try simp only [Act.put, ma, mb, mc, md, me, mf])
 refine tk 6 (v := ?_) rfl (Or.inl ⟨by rfl, ?_⟩) ?_
 rotate_left
 ·(intro w5 hw5; obtain ⟨ha_, hb_⟩ := hw5; have q1 := ha_.cell; have q2 := hb_.cell; go_simp; (try with_reducible rfl))
 (try simp only [Act.put, ma, mb, mc, md, me, mf])
 refine tk 7 (v := ?_) rfl (Or.inl ⟨by rfl, ?_⟩) ?_
 rotate_left
 ·(intro w5 hw5; obtain ⟨ha_, hb_⟩ := hw5; have q1 := ha_.cell; have q2 := hb_.cell; go_simp; (try with_reducible rfl))
 (try simp only [Act.put, ma, mb, mc, md, me, mf])
 refine tk 8 (v := ?_) rfl (Or.inl ⟨by rfl, ?_⟩) ?_
 rotate_left
 ·(intro w5 hw5; obtain ⟨ha_, hb_⟩ := hw5; have q1 := ha_.cell; have q2 := hb_.cell; go_simp; (try with_reducible rfl))
 (try simp only [Act.put, ma, mb, mc, md, me, mf])
 have G1 : Blk (w8.drew.setRow (w.heap.size + 1) #[.int .i64 ((0 : Nat) : Int), .int .i64 v.st.rev]) g 65 #[.int .i64 v.st.rev, .slice q1 v.st.jobs.length d1, .slice q2 v.st.nodes.length d2, .slice q3 v.st.leases.length d3, .int .i64 now'] ∧ Blk (w8.drew.setRow (w.heap.size + 1) #[.int .i64 ((0 : Nat) : Int), .int .i64 v.st.rev]) kx 48 #[.int .i64 0, .int .i64 0, .slice none 0 0, .slice none 0 0, .slice none 0 0, .slice none 0 0, .slice none 0 0, .slice none 0 0] := (⟨G0.1.far_row (G0.1.ne_ hr1 (by decide)) #[.int .i64 ((0 : Nat) : Int), .int .i64 v.st.rev], G0.2.far_row (G0.2.ne_ hr1 (by decide)) #[.int .i64 ((0 : Nat) : Int), .int .i64 v.st.rev]⟩)
 have hd2 := hd1.far_row (hd1.ne_ hr1 (by decide)) #[.int .i64 ((0 : Nat) : Int), .int .i64 v.st.rev]
 refine tr 9 rfl (fun K hK => ?_)
 refine step_store_blk rfl _ _ _ rfl (w.heap.size + 1) rfl _ _ #[.int .i64 ((0 : Nat) : Int), .int .i64 v.st.rev] hr1 rfl rep_size rfl (one_rep _ _) ?_
 refine hK.out _ _ ?_ (fun hHeld => ?_)
 ·exact G1
 clear hK K
 (try simp only [Act.put, ma, mb, mc, md, me, mf])
 have G2 : Blk ((w8.drew.setRow (w.heap.size + 1) #[.int .i64 ((0 : Nat) : Int), .int .i64 v.st.rev]).setRow (w.heap.size + 2) #[.int .i64 0, .int .i64 0, .slice none 0 0, .slice none 0 0, .slice none 0 0, .slice none 0 0, .slice none 0 0, .slice none 0 0]) g 65 #[.int .i64 v.st.rev, .slice q1 v.st.jobs.length d1, .slice q2 v.st.nodes.length d2, .slice q3 v.st.leases.length d3, .int .i64 now'] ∧ Blk ((w8.drew.setRow (w.heap.size + 1) #[.int .i64 ((0 : Nat) : Int), .int .i64 v.st.rev]).setRow (w.heap.size + 2) #[.int .i64 0, .int .i64 0, .slice none 0 0, .slice none 0 0, .slice none 0 0, .slice none 0 0, .slice none 0 0, .slice none 0 0]) kx 48 #[.int .i64 0, .int .i64 0, .slice none 0 0, .slice none 0 0, .slice none 0 0, .slice none 0 0, .slice none 0 0, .slice none 0 0] := ⟨G1.1.far_row (G1.1.ne_ hd2 (by decide)) #[.int .i64 0, .int .i64 0, .slice none 0 0, .slice none 0 0, .slice none 0 0, .slice none 0 0, .slice none 0 0, .slice none 0 0], G1.2.far_row (by omega) #[.int .i64 0, .int .i64 0, .slice none 0 0, .slice none 0 0, .slice none 0 0, .slice none 0 0, .slice none 0 0, .slice none 0 0]⟩
 refine tr 10 rfl (fun K hK => ?_)
 refine step_store_blk rfl _ _ _ rfl (w.heap.size + 2) rfl _ _ #[.int .i64 0, .int .i64 0, .slice none 0 0, .slice none 0 0, .slice none 0 0, .slice none 0 0, .slice none 0 0, .slice none 0 0] hd2 rfl delta_size rfl (one_d8 _ _ _ _ _ _ _ _ _ _ _ _ _ _ _ _ _ _ _ _) ?_
 refine hK.out _ _ ?_ (fun hHeld => ?_)
 ·exact G2
 clear hK K
 (try simp only [Act.put, ma, mb, mc, md, me, mf])
 refine tk 11 (v := ?_) rfl (Or.inl ⟨by rfl, ?_⟩) ?_
 rotate_left
 ·(intro w5 hw5; obtain ⟨ha_, hb_⟩ := hw5; have q1 := ha_.cell; have q2 := hb_.cell; go_simp; (try with_reducible rfl))
 (try simp only [Act.put, ma, mb, mc, md, me, mf])
 refine wpAnyH_done (by kernel_rfl) ?_ _
 have hr3 := (hr1.setRow #[.int .i64 ((0 : Nat) : Int), .int .i64 v.st.rev]).far_row ((hr1.setRow #[.int .i64 ((0 : Nat) : Int), .int .i64 v.st.rev]).ne_ hd2 (by decide)) #[.int .i64 0, .int .i64 0, .slice none 0 0, .slice none 0 0, .slice none 0 0, .slice none 0 0, .slice none 0 0, .slice none 0 0]
 have hd3 := hd2.setRow #[.int .i64 0, .int .i64 0, .slice none 0 0, .slice none 0 0, .slice none 0 0, .slice none 0 0, .slice none 0 0, .slice none 0 0]
 go_wp2_with fail
 refine bodyPost_ret (results_c2t1 rfl _ rfl hr3 Tryz.underlying45 rfl rep_size rfl hd3 Tryz.underlying48 rfl delta_size) rfl ?_
 obtain ⟨m1, m2⟩ := svDo_fin (c1 := #[.int .i64 ((0 : Nat) : Int), .int .i64 v.st.rev]) (c2 := #[.int .i64 0, .int .i64 0, .slice none 0 0, .slice none 0 0, .slice none 0 0, .slice none 0 0, .slice none 0 0, .slice none 0 0]) ⟨q1, q2, q3, d1, d2, d3, M8⟩ g8 (by omega) (by omega) br8 bd8 (by decide) (by decide) (by omega)
 refine ⟨none, none, none, none, none, none, 0, 0, 0, 0, 0, 0, ?_, m1, m2, DelM.nil _ _⟩
 rfl
end Go.Proofs.YtaioadbenigdpaaGreatDoor
