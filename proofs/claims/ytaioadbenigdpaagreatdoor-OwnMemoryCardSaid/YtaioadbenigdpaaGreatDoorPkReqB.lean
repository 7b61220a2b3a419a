/-
  Several texts in one: ReqW.
-/
import Derived.Test.YtaioadbenigdpaaGreatDoorPkHeld
import Derived.Test.YtaioadbenigdpaaGreatDoorPkReqA
set_option linter.unusedVariables false
set_option linter.unusedSimpArgs false
set_option maxHeartbeats 16000000
set_option maxRecDepth 100000
namespace Go.Proofs.YtaioadbenigdpaaGreatDoor
open Go.RowKit
structure ReqSz (q : ReqD) : Prop where
 jn : q.job.name.size ≤ 9223372036854775807
 jt : q.job.tag.size ≤ 9223372036854775807
 nn : q.node.name.size ≤ 9223372036854775807
 nz : q.node.zone.size ≤ 9223372036854775807
 lj : q.lease.job.size ≤ 9223372036854775807
 ln : q.lease.node.size ≤ 9223372036854775807
 nm : q.name.size ≤ 9223372036854775807
theorem partOfZ8 (q : ReqD) (hkind : q.kind = 8) (w : World) :
  Calls Tryz.prog 38 #[.agg #[.int .i64 q.kind, .string q.job.name, .int .i64 q.job.prio, .int .i64 q.job.need, .int .i64 q.job.tries, .string q.job.tag, .string q.node.name, .int .i64 q.node.room, .string q.node.zone, .string q.lease.job, .string q.lease.node, .int .i64 q.lease.till, .string q.name, .int .i64 q.n]] w fun e w' => e = .returned (.iface 152 (.agg #[])) ∧ Below w.heap.size w w' := by
 have hb0 : Below w.heap.size w (w.alloc (.cells #[.int .i64 q.kind, .string q.job.name, .int .i64 q.job.prio, .int .i64 q.job.need, .int .i64 q.job.tries, .string q.job.tag, .string q.node.name, .int .i64 q.node.room, .string q.node.zone, .string q.lease.job, .string q.lease.node, .int .i64 q.lease.till, .string q.name, .int .i64 q.n] 43)) := (Below.refl _ _).alloc (Nat.le_refl _) _
 have bq := Blk.new w 43 #[.int .i64 q.kind, .string q.job.name, .int .i64 q.job.prio, .int .i64 q.job.need, .int .i64 q.job.tries, .string q.job.tag, .string q.node.name, .int .i64 q.node.room, .string q.node.zone, .string q.lease.job, .string q.lease.node, .int .i64 q.lease.till, .string q.name, .int .i64 q.n]
 have kk1 : (q.kind == (1 : Int)) = false := by rw [hkind]; rfl
 have kk2 : (q.kind == (2 : Int)) = false := by rw [hkind]; rfl
 have kk5 : (q.kind == (5 : Int)) = false := by rw [hkind]; rfl
 have kk3 : (q.kind == (3 : Int)) = false := by rw [hkind]; rfl
 have kk4 : (q.kind == (4 : Int)) = false := by rw [hkind]; rfl
 have kk6 : (q.kind == (6 : Int)) = false := by rw [hkind]; rfl
 have kk7 : (q.kind == (7 : Int)) = false := by rw [hkind]; rfl
 have kk8 : (q.kind == (8 : Int)) = true := by rw [hkind]; rfl
 have kk9 : (q.kind == (9 : Int)) = false := by rw [hkind]; rfl
 clear hkind
 go_enter Tryz.func38, Tryz.ntmps38
 go_upto_region 1 with fail
 generalize w.alloc _ = w0 at *
 have c0 : w0.cell? ⟨w.heap.size, 0, none⟩ = some (.int .i64 q.kind) := bq.cell 0
 go_wp2_with fail
 go_ret
 exact ⟨rfl, hb0⟩
theorem partOfZ9 (q : ReqD) (hkind : q.kind = 9) (w : World) :
  Calls Tryz.prog 38 #[.agg #[.int .i64 q.kind, .string q.job.name, .int .i64 q.job.prio, .int .i64 q.job.need, .int .i64 q.job.tries, .string q.job.tag, .string q.node.name, .int .i64 q.node.room, .string q.node.zone, .string q.lease.job, .string q.lease.node, .int .i64 q.lease.till, .string q.name, .int .i64 q.n]] w fun e w' => e = .returned (.iface 152 (.agg #[])) ∧ Below w.heap.size w w' := by
 have hb0 : Below w.heap.size w (w.alloc (.cells #[.int .i64 q.kind, .string q.job.name, .int .i64 q.job.prio, .int .i64 q.job.need, .int .i64 q.job.tries, .string q.job.tag, .string q.node.name, .int .i64 q.node.room, .string q.node.zone, .string q.lease.job, .string q.lease.node, .int .i64 q.lease.till, .string q.name, .int .i64 q.n] 43)) := (Below.refl _ _).alloc (Nat.le_refl _) _
 have bq := Blk.new w 43 #[.int .i64 q.kind, .string q.job.name, .int .i64 q.job.prio, .int .i64 q.job.need, .int .i64 q.job.tries, .string q.job.tag, .string q.node.name, .int .i64 q.node.room, .string q.node.zone, .string q.lease.job, .string q.lease.node, .int .i64 q.lease.till, .string q.name, .int .i64 q.n]
 have kk1 : (q.kind == (1 : Int)) = false := by rw [hkind]; rfl
 have kk2 : (q.kind == (2 : Int)) = false := by rw [hkind]; rfl
 have kk5 : (q.kind == (5 : Int)) = false := by rw [hkind]; rfl
 have kk3 : (q.kind == (3 : Int)) = false := by rw [hkind]; rfl
 have kk4 : (q.kind == (4 : Int)) = false := by rw [hkind]; rfl
 have kk6 : (q.kind == (6 : Int)) = false := by rw [hkind]; rfl
 have kk7 : (q.kind == (7 : Int)) = false := by rw [hkind]; rfl
 have kk8 : (q.kind == (8 : Int)) = false := by rw [hkind]; rfl
 have kk9 : (q.kind == (9 : Int)) = true := by rw [hkind]; rfl
 clear hkind
 go_enter Tryz.func38, Tryz.ntmps38
 go_upto_region 1 with fail
 generalize w.alloc _ = w0 at *
 have c0 : w0.cell? ⟨w.heap.size, 0, none⟩ = some (.int .i64 q.kind) := bq.cell 0
 go_wp2_with fail
 go_ret
 exact ⟨rfl, hb0⟩
theorem partOf_not (q : ReqD) (hkind : ¬(1 ≤ q.kind ∧ q.kind ≤ 9)) (w : World) :
  Calls Tryz.prog 38 #[.agg #[.int .i64 q.kind, .string q.job.name, .int .i64 q.job.prio, .int .i64 q.job.need, .int .i64 q.job.tries, .string q.job.tag, .string q.node.name, .int .i64 q.node.room, .string q.node.zone, .string q.lease.job, .string q.lease.node, .int .i64 q.lease.till, .string q.name, .int .i64 q.n]] w fun e w' => e = .returned .nilIface ∧ Below w.heap.size w w' := by
 have hb0 : Below w.heap.size w (w.alloc (.cells #[.int .i64 q.kind, .string q.job.name, .int .i64 q.job.prio, .int .i64 q.job.need, .int .i64 q.job.tries, .string q.job.tag, .string q.node.name, .int .i64 q.node.room, .string q.node.zone, .string q.lease.job, .string q.lease.node, .int .i64 q.lease.till, .string q.name, .int .i64 q.n] 43)) := (Below.refl _ _).alloc (Nat.le_refl _) _
 have bq := Blk.new w 43 #[.int .i64 q.kind, .string q.job.name, .int .i64 q.job.prio, .int .i64 q.job.need, .int .i64 q.job.tries, .string q.job.tag, .string q.node.name, .int .i64 q.node.room, .string q.node.zone, .string q.lease.job, .string q.lease.node, .int .i64 q.lease.till, .string q.name, .int .i64 q.n]
 have kk1 : (q.kind == (1 : Int)) = false := by rw [beq_eq_false_iff_ne]; omega
 have kk2 : (q.kind == (2 : Int)) = false := by rw [beq_eq_false_iff_ne]; omega
 have kk5 : (q.kind == (5 : Int)) = false := by rw [beq_eq_false_iff_ne]; omega
 have kk3 : (q.kind == (3 : Int)) = false := by rw [beq_eq_false_iff_ne]; omega
 have kk4 : (q.kind == (4 : Int)) = false := by rw [beq_eq_false_iff_ne]; omega
 have kk6 : (q.kind == (6 : Int)) = false := by rw [beq_eq_false_iff_ne]; omega
 have kk7 : (q.kind == (7 : Int)) = false := by rw [beq_eq_false_iff_ne]; omega
 have kk8 : (q.kind == (8 : Int)) = false := by rw [beq_eq_false_iff_ne]; omega
 have kk9 : (q.kind == (9 : Int)) = false := by rw [beq_eq_false_iff_ne]; omega
 clear hkind
 go_enter Tryz.func38, Tryz.ntmps38
 go_upto_region 1 with fail
 generalize w.alloc _ = w0 at *
 have c0 : w0.cell? ⟨w.heap.size, 0, none⟩ = some (.int .i64 q.kind) := bq.cell 0
 go_wp2_with fail
 go_ret
 exact ⟨rfl, hb0⟩
theorem reqCheckJ (q : ReqD) (w : World) (HS : ReqSz q) (hT : Tabs w) (hkind : q.kind = 1) :
  Calls Tryz.prog 23 #[.agg #[.int .i64 q.kind, .string q.job.name, .int .i64 q.job.prio, .int .i64 q.job.need, .int .i64 q.job.tries, .string q.job.tag, .string q.node.name, .int .i64 q.node.room, .string q.node.zone, .string q.lease.job, .string q.lease.node, .int .i64 q.lease.till, .string q.name, .int .i64 q.n]] w fun e w' => e = .returned (.int .i64 ((reqE q : Nat) : Int)) ∧ Below w.heap.size w w' := by
 have hw : wholeR q = ⟨q.kind, q.job, noN, noL, ByteArray.empty, 0⟩ := by unfold wholeR; simp [hkind]
 have hp : partE q = jobE q.job := by unfold partE; simp [hkind]
 have hR : reqE q = if decide ((⟨q.kind, q.job, noN, noL, ByteArray.empty, 0⟩ : ReqD) = q) = true then jobE q.job else 4 := by
  unfold reqE
  rw [if_pos (by omega), hw, hp]
  by_cases h : (⟨q.kind, q.job, noN, noL, ByteArray.empty, 0⟩ : ReqD) = q <;> simp [h]
 have HP := Lib.hid (fun (W : World) => partOfJ q hkind W)
 have HW := Lib.hid (fun (W : World) (g : Nat) (bg : Blk W g 140 #[.string q.job.name, .int .i64 q.job.prio, .int .i64 q.job.need, .int .i64 q.job.tries, .string q.job.tag]) => wholeJ q.kind q.job g W bg)
 have HC := Lib.hid (fun (W : World) (g : Nat) (bg : Blk W g 140 #[.string q.job.name, .int .i64 q.job.prio, .int .i64 q.job.need, .int .i64 q.job.tries, .string q.job.tag]) (hW : Below w.heap.size w W) => checkJ q.job g W bg HS.jn HS.jt (hT.below hW))
 have hE := eqInQ ⟨q.kind, q.job, noN, noL, ByteArray.empty, 0⟩ q
 have hE2 := eqGuardQ
 generalize hbb : decide ((⟨q.kind, q.job, noN, noL, ByteArray.empty, 0⟩ : ReqD) = q) = b at *
 dsimp only [noJ, noN, noL] at hE
 have HR := Lib.hid hR
 clear hkind hw hp hR hT HS hbb
 have hb0 : Below w.heap.size w (w.alloc (.cells #[.int .i64 q.kind, .string q.job.name, .int .i64 q.job.prio, .int .i64 q.job.need, .int .i64 q.job.tries, .string q.job.tag, .string q.node.name, .int .i64 q.node.room, .string q.node.zone, .string q.lease.job, .string q.lease.node, .int .i64 q.lease.till, .string q.name, .int .i64 q.n] 43)) := (Below.refl _ _).alloc (Nat.le_refl _) _
 have bq0 := Blk.new w 43 #[.int .i64 q.kind, .string q.job.name, .int .i64 q.job.prio, .int .i64 q.job.need, .int .i64 q.job.tries, .string q.job.tag, .string q.node.name, .int .i64 q.node.room, .string q.node.zone, .string q.lease.job, .string q.lease.node, .int .i64 q.lease.till, .string q.name, .int .i64 q.n]
 go_enter Tryz.func23, Tryz.ntmps23
 go_upto_region 1 with fail
 generalize w.alloc _ = w0 at *
 go_wp2_with (first | (refine wpList_load_blk rfl _ _ rfl w.heap.size rfl _ _ bq0 _ Tryz.underlying43 rfl request_size ?_))
 refine (HP.out w0).mono ?_
 rintro e w1 ⟨g, rfl, hg, bg1, hb1⟩
 have hB1 := hb0.trans (hb1.mono hb0.size)
 have bq1 := bq0.below hb1 bq0.lt
 clear hb1 hb0 bq0 hg
 go_upto_region 4 with fail
 cases b
 ·have G0 : Blk w1.drew w.heap.size 43 #[.int .i64 q.kind, .string q.job.name, .int .i64 q.job.prio, .int .i64 q.job.need, .int .i64 q.job.tries, .string q.job.tag, .string q.node.name, .int .i64 q.node.room, .string q.node.zone, .string q.lease.job, .string q.lease.node, .int .i64 q.lease.till, .string q.name, .int .i64 q.n] ∧ Blk w1.drew g 140 #[.string q.job.name, .int .i64 q.job.prio, .int .i64 q.job.need, .int .i64 q.job.tries, .string q.job.tag] := ⟨bq1.drew, bg1.drew⟩
  refine wp_region_held_drew (S := fun W => Blk W w.heap.size 43 #[.int .i64 q.kind, .string q.job.name, .int .i64 q.job.prio, .int .i64 q.job.need, .int .i64 q.job.tries, .string q.job.tag, .string q.node.name, .int .i64 q.node.room, .string q.node.zone, .string q.lease.job, .string q.lease.node, .int .i64 q.lease.till, .string q.name, .int .i64 q.n] ∧ Blk W g 140 #[.string q.job.name, .int .i64 q.job.prio, .int .i64 q.job.need, .int .i64 q.job.tries, .string q.job.tag]) (by kernel_rfl) G0 (fun hHeld => ?_)
  refine tk 0 (v := ?_) rfl (Or.inl ⟨by rfl, ?_⟩) ?_
  rotate_left
  ·(intro w5 hw5; obtain ⟨hb1_, hb2_⟩ := hw5; have q1 := hb1_.cell; go_simp; (try with_reducible rfl))
  (try simp only [Act.put, ma, mb, mc, md, me, mf])
  refine tk 1 (v := ?_) rfl (Or.inl ⟨by rfl, ?_⟩) ?_
  rotate_left
  ·(intro w5 hw5; obtain ⟨hb1_, hb2_⟩ := hw5; have q1 := hb1_.cell; go_simp; (try with_reducible rfl))
  (try simp only [Act.put, ma, mb, mc, md, me, mf])
  refine tk 2 (v := ?_) rfl (Or.inl ⟨by rfl, ?_⟩) ?_
  rotate_left
  ·(intro w5 hw5; obtain ⟨hb1_, hb2_⟩ := hw5; have q1 := hb1_.cell; go_simp; (try with_reducible rfl))
  (try simp only [Act.put, ma, mb, mc, md, me, mf])
  refine tk 4 (v := ?_) rfl (Or.inl ⟨by rfl, ?_⟩) ?_
  rotate_left
  ·(intro w5 hw5; obtain ⟨hb1_, hb2_⟩ := hw5; have q1 := hb1_.cell; go_simp; (try with_reducible rfl))
  (try simp only [Act.put, ma, mb, mc, md, me, mf])
  refine tr 3 rfl (fun K hK => ?_)
  go_simp
  refine (HW.out w1.drew g G0.2).mono ?_
  rintro e w2 ⟨rfl, hb2⟩
  have hB2 := hB1.trans (((Below.refl _ w1).drew.trans (hb2.mono (Nat.le_refl _))).mono hB1.size)
  have G1 : Blk w2 w.heap.size 43 #[.int .i64 q.kind, .string q.job.name, .int .i64 q.job.prio, .int .i64 q.job.need, .int .i64 q.job.tries, .string q.job.tag, .string q.node.name, .int .i64 q.node.room, .string q.node.zone, .string q.lease.job, .string q.lease.node, .int .i64 q.lease.till, .string q.name, .int .i64 q.n] ∧ Blk w2 g 140 #[.string q.job.name, .int .i64 q.job.prio, .int .i64 q.job.need, .int .i64 q.job.tries, .string q.job.tag] := ⟨G0.1.below hb2 G0.1.lt, G0.2.below hb2 G0.2.lt⟩
  clear hb2 hB1
  refine hK.out _ _ ?_ (fun hHeld => ?_)
  ·exact G1
  clear hK K
  (try simp only [Act.put, ma, mb, mc, md, me, mf])
  refine tk 5 (v := ?_) rfl (Or.inl ⟨by rfl, ?_⟩) ?_
  rotate_left
  ·(intro w5 hw5; obtain ⟨hb1_, hb2_⟩ := hw5; have q1 := hb1_.cell; go_simp; (try with_reducible rfl))
  (try simp only [Act.put, ma, mb, mc, md, me, mf])
  refine tk 6 (v := ?_) rfl (Or.inl ⟨by rfl, ?_⟩) ?_
  rotate_left
  ·(intro w5 hw5; obtain ⟨hb1_, hb2_⟩ := hw5; have q1 := hb1_.cell; go_simp; (try with_reducible rfl))
  (try simp only [Act.put, ma, mb, mc, md, me, mf])
  refine wpAnyH_done (by kernel_rfl) ?_ _
  obtain ⟨bq2, bg2⟩ := G1
  clear G0 hHeld bq1 bg1
  go_wp2_with fail
  go_ret
  refine ⟨?_, hB2⟩
  rw [HR.out, if_neg (by simp)]
  rfl
 ·have G0 : Blk w1.drew w.heap.size 43 #[.int .i64 q.kind, .string q.job.name, .int .i64 q.job.prio, .int .i64 q.job.need, .int .i64 q.job.tries, .string q.job.tag, .string q.node.name, .int .i64 q.node.room, .string q.node.zone, .string q.lease.job, .string q.lease.node, .int .i64 q.lease.till, .string q.name, .int .i64 q.n] ∧ Blk w1.drew g 140 #[.string q.job.name, .int .i64 q.job.prio, .int .i64 q.job.need, .int .i64 q.job.tries, .string q.job.tag] := ⟨bq1.drew, bg1.drew⟩
  refine wp_region_held_drew (S := fun W => Blk W w.heap.size 43 #[.int .i64 q.kind, .string q.job.name, .int .i64 q.job.prio, .int .i64 q.job.need, .int .i64 q.job.tries, .string q.job.tag, .string q.node.name, .int .i64 q.node.room, .string q.node.zone, .string q.lease.job, .string q.lease.node, .int .i64 q.lease.till, .string q.name, .int .i64 q.n] ∧ Blk W g 140 #[.string q.job.name, .int .i64 q.job.prio, .int .i64 q.job.need, .int .i64 q.job.tries, .string q.job.tag]) (by kernel_rfl) G0 (fun hHeld => ?_)
  refine tk 0 (v := ?_) rfl (Or.inl ⟨by rfl, ?_⟩) ?_
  rotate_left
  ·(intro w5 hw5; obtain ⟨hb1_, hb2_⟩ := hw5; have q1 := hb1_.cell; go_simp; (try with_reducible rfl))
  (try simp only [Act.put, ma, mb, mc, md, me, mf])
  refine tk 1 (v := ?_) rfl (Or.inl ⟨by rfl, ?_⟩) ?_
  rotate_left
  ·(intro w5 hw5; obtain ⟨hb1_, hb2_⟩ := hw5; have q1 := hb1_.cell; go_simp; (try with_reducible rfl))
  (try simp only [Act.put, ma, mb, mc, md, me, mf])
  refine tk 2 (v := ?_) rfl (Or.inl ⟨by rfl, ?_⟩) ?_
  rotate_left
  ·(intro w5 hw5; obtain ⟨hb1_, hb2_⟩ := hw5; have q1 := hb1_.cell; go_simp; (try with_reducible rfl))
  (try simp only [Act.put, ma, mb, mc, md, me, mf])
  refine tk 4 (v := ?_) rfl (Or.inl ⟨by rfl, ?_⟩) ?_
  rotate_left
  ·(intro w5 hw5; obtain ⟨hb1_, hb2_⟩ := hw5; have q1 := hb1_.cell; go_simp; (try with_reducible rfl))
  (try simp only [Act.put, ma, mb, mc, md, me, mf])
  refine tr 3 rfl (fun K hK => ?_)
  go_simp
  refine (HW.out w1.drew g G0.2).mono ?_
  rintro e w2 ⟨rfl, hb2⟩
  have hB2 := hB1.trans (((Below.refl _ w1).drew.trans (hb2.mono (Nat.le_refl _))).mono hB1.size)
  have G1 : Blk w2 w.heap.size 43 #[.int .i64 q.kind, .string q.job.name, .int .i64 q.job.prio, .int .i64 q.job.need, .int .i64 q.job.tries, .string q.job.tag, .string q.node.name, .int .i64 q.node.room, .string q.node.zone, .string q.lease.job, .string q.lease.node, .int .i64 q.lease.till, .string q.name, .int .i64 q.n] ∧ Blk w2 g 140 #[.string q.job.name, .int .i64 q.job.prio, .int .i64 q.job.need, .int .i64 q.job.tries, .string q.job.tag] := ⟨G0.1.below hb2 G0.1.lt, G0.2.below hb2 G0.2.lt⟩
  clear hb2 hB1
  refine hK.out _ _ ?_ (fun hHeld => ?_)
  ·exact G1
  clear hK K
  (try simp only [Act.put, ma, mb, mc, md, me, mf])
  refine tk 5 (v := ?_) rfl (Or.inl ⟨by rfl, ?_⟩) ?_
  rotate_left
  ·(intro w5 hw5; obtain ⟨hb1_, hb2_⟩ := hw5; have q1 := hb1_.cell; go_simp; (try with_reducible rfl))
  (try simp only [Act.put, ma, mb, mc, md, me, mf])
  refine tk 6 (v := ?_) rfl (Or.inl ⟨by rfl, ?_⟩) ?_
  rotate_left
  ·(intro w5 hw5; obtain ⟨hb1_, hb2_⟩ := hw5; have q1 := hb1_.cell; go_simp; (try with_reducible rfl))
  (try simp only [Act.put, ma, mb, mc, md, me, mf])
  refine wpAnyH_done (by kernel_rfl) ?_ _
  obtain ⟨bq2, bg2⟩ := G1
  clear G0 hHeld bq1 bg1
  have HC2 := Lib.hid (HC.out w2 g bg2 hB2)
  go_wp2_with fail
  refine HC2.out.mono ?_
  rintro e w3 ⟨rfl, hb3⟩
  have hB3 := hB2.trans (hb3.mono hB2.size)
  go_wp2_with fail
  go_ret
  refine ⟨?_, hB3⟩
  rw [HR.out, if_pos (by trivial)]
  rfl
theorem reqCheckN (q : ReqD) (w : World) (HS : ReqSz q) (hT : Tabs w) (hkind : q.kind = 2) :
  Calls Tryz.prog 23 #[.agg #[.int .i64 q.kind, .string q.job.name, .int .i64 q.job.prio, .int .i64 q.job.need, .int .i64 q.job.tries, .string q.job.tag, .string q.node.name, .int .i64 q.node.room, .string q.node.zone, .string q.lease.job, .string q.lease.node, .int .i64 q.lease.till, .string q.name, .int .i64 q.n]] w fun e w' => e = .returned (.int .i64 ((reqE q : Nat) : Int)) ∧ Below w.heap.size w w' := by
 have hw : wholeR q = ⟨q.kind, noJ, q.node, noL, ByteArray.empty, 0⟩ := by unfold wholeR; simp [hkind]
 have hp : partE q = nodeE q.node := by unfold partE; simp [hkind]
 have hR : reqE q = if decide ((⟨q.kind, noJ, q.node, noL, ByteArray.empty, 0⟩ : ReqD) = q) = true then nodeE q.node else 4 := by
  unfold reqE
  rw [if_pos (by omega), hw, hp]
  by_cases h : (⟨q.kind, noJ, q.node, noL, ByteArray.empty, 0⟩ : ReqD) = q <;> simp [h]
 have HP := Lib.hid (fun (W : World) => partOfN q hkind W)
 have HW := Lib.hid (fun (W : World) (g : Nat) (bg : Blk W g 143 #[.string q.node.name, .int .i64 q.node.room, .string q.node.zone]) => wholeN q.kind q.node g W bg)
 have HC := Lib.hid (fun (W : World) (g : Nat) (bg : Blk W g 143 #[.string q.node.name, .int .i64 q.node.room, .string q.node.zone]) (hW : Below w.heap.size w W) => checkN q.node g W bg HS.nn HS.nz (hT.below hW))
 have hE := eqInQ ⟨q.kind, noJ, q.node, noL, ByteArray.empty, 0⟩ q
 have hE2 := eqGuardQ
 generalize hbb : decide ((⟨q.kind, noJ, q.node, noL, ByteArray.empty, 0⟩ : ReqD) = q) = b at *
 dsimp only [noJ, noN, noL] at hE
 have HR := Lib.hid hR
 clear hkind hw hp hR hT HS hbb
 have hb0 : Below w.heap.size w (w.alloc (.cells #[.int .i64 q.kind, .string q.job.name, .int .i64 q.job.prio, .int .i64 q.job.need, .int .i64 q.job.tries, .string q.job.tag, .string q.node.name, .int .i64 q.node.room, .string q.node.zone, .string q.lease.job, .string q.lease.node, .int .i64 q.lease.till, .string q.name, .int .i64 q.n] 43)) := (Below.refl _ _).alloc (Nat.le_refl _) _
 have bq0 := Blk.new w 43 #[.int .i64 q.kind, .string q.job.name, .int .i64 q.job.prio, .int .i64 q.job.need, .int .i64 q.job.tries, .string q.job.tag, .string q.node.name, .int .i64 q.node.room, .string q.node.zone, .string q.lease.job, .string q.lease.node, .int .i64 q.lease.till, .string q.name, .int .i64 q.n]
 go_enter Tryz.func23, Tryz.ntmps23
 go_upto_region 1 with fail
 generalize w.alloc _ = w0 at *
 go_wp2_with (first | (refine wpList_load_blk rfl _ _ rfl w.heap.size rfl _ _ bq0 _ Tryz.underlying43 rfl request_size ?_))
 refine (HP.out w0).mono ?_
 rintro e w1 ⟨g, rfl, hg, bg1, hb1⟩
 have hB1 := hb0.trans (hb1.mono hb0.size)
 have bq1 := bq0.below hb1 bq0.lt
 clear hb1 hb0 bq0 hg
 go_upto_region 4 with fail
 cases b
 ·have G0 : Blk w1.drew w.heap.size 43 #[.int .i64 q.kind, .string q.job.name, .int .i64 q.job.prio, .int .i64 q.job.need, .int .i64 q.job.tries, .string q.job.tag, .string q.node.name, .int .i64 q.node.room, .string q.node.zone, .string q.lease.job, .string q.lease.node, .int .i64 q.lease.till, .string q.name, .int .i64 q.n] ∧ Blk w1.drew g 143 #[.string q.node.name, .int .i64 q.node.room, .string q.node.zone] := ⟨bq1.drew, bg1.drew⟩
  refine wp_region_held_drew (S := fun W => Blk W w.heap.size 43 #[.int .i64 q.kind, .string q.job.name, .int .i64 q.job.prio, .int .i64 q.job.need, .int .i64 q.job.tries, .string q.job.tag, .string q.node.name, .int .i64 q.node.room, .string q.node.zone, .string q.lease.job, .string q.lease.node, .int .i64 q.lease.till, .string q.name, .int .i64 q.n] ∧ Blk W g 143 #[.string q.node.name, .int .i64 q.node.room, .string q.node.zone]) (by kernel_rfl) G0 (fun hHeld => ?_)
  refine tk 0 (v := ?_) rfl (Or.inl ⟨by rfl, ?_⟩) ?_
  rotate_left
  ·(intro w5 hw5; obtain ⟨hb1_, hb2_⟩ := hw5; have q1 := hb1_.cell; go_simp; (try with_reducible rfl))
  (try simp only [Act.put, ma, mb, mc, md, me, mf])
  refine tk 1 (v := ?_) rfl (Or.inl ⟨by rfl, ?_⟩) ?_
  rotate_left
  ·(intro w5 hw5; obtain ⟨hb1_, hb2_⟩ := hw5; have q1 := hb1_.cell; go_simp; (try with_reducible rfl))
  (try simp only [Act.put, ma, mb, mc, md, me, mf])
  refine tk 2 (v := ?_) rfl (Or.inl ⟨by rfl, ?_⟩) ?_
  rotate_left
  ·(intro w5 hw5; obtain ⟨hb1_, hb2_⟩ := hw5; have q1 := hb1_.cell; go_simp; (try with_reducible rfl))
  (try simp only [Act.put, ma, mb, mc, md, me, mf])
  refine tk 4 (v := ?_) rfl (Or.inl ⟨by rfl, ?_⟩) ?_
  rotate_left
  ·(intro w5 hw5; obtain ⟨hb1_, hb2_⟩ := hw5; have q1 := hb1_.cell; go_simp; (try with_reducible rfl))
  (try simp only [Act.put, ma, mb, mc, md, me, mf])
  refine tr 3 rfl (fun K hK => ?_)
  go_simp
  refine (HW.out w1.drew g G0.2).mono ?_
  rintro e w2 ⟨rfl, hb2⟩
  have hB2 := hB1.trans (((Below.refl _ w1).drew.trans (hb2.mono (Nat.le_refl _))).mono hB1.size)
  have G1 : Blk w2 w.heap.size 43 #[.int .i64 q.kind, .string q.job.name, .int .i64 q.job.prio, .int .i64 q.job.need, .int .i64 q.job.tries, .string q.job.tag, .string q.node.name, .int .i64 q.node.room, .string q.node.zone, .string q.lease.job, .string q.lease.node, .int .i64 q.lease.till, .string q.name, .int .i64 q.n] ∧ Blk w2 g 143 #[.string q.node.name, .int .i64 q.node.room, .string q.node.zone] := ⟨G0.1.below hb2 G0.1.lt, G0.2.below hb2 G0.2.lt⟩
  clear hb2 hB1
  refine hK.out _ _ ?_ (fun hHeld => ?_)
  ·exact G1
  clear hK K
  (try simp only [Act.put, ma, mb, mc, md, me, mf])
  refine tk 5 (v := ?_) rfl (Or.inl ⟨by rfl, ?_⟩) ?_
  rotate_left
  ·(intro w5 hw5; obtain ⟨hb1_, hb2_⟩ := hw5; have q1 := hb1_.cell; go_simp; (try with_reducible rfl))
  (try simp only [Act.put, ma, mb, mc, md, me, mf])
  refine tk 6 (v := ?_) rfl (Or.inl ⟨by rfl, ?_⟩) ?_
  rotate_left
  ·(intro w5 hw5; obtain ⟨hb1_, hb2_⟩ := hw5; have q1 := hb1_.cell; go_simp; (try with_reducible rfl))
  (try simp only [Act.put, ma, mb, mc, md, me, mf])
  refine wpAnyH_done (by kernel_rfl) ?_ _
  obtain ⟨bq2, bg2⟩ := G1
  clear G0 hHeld bq1 bg1
  go_wp2_with fail
  go_ret
  refine ⟨?_, hB2⟩
  rw [HR.out, if_neg (by simp)]
  rfl
 ·have G0 : Blk w1.drew w.heap.size 43 #[.int .i64 q.kind, .string q.job.name, .int .i64 q.job.prio, .int .i64 q.job.need, .int .i64 q.job.tries, .string q.job.tag, .string q.node.name, .int .i64 q.node.room, .string q.node.zone, .string q.lease.job, .string q.lease.node, .int .i64 q.lease.till, .string q.name, .int .i64 q.n] ∧ Blk w1.drew g 143 #[.string q.node.name, .int .i64 q.node.room, .string q.node.zone] := ⟨bq1.drew, bg1.drew⟩
  refine wp_region_held_drew (S := fun W => Blk W w.heap.size 43 #[.int .i64 q.kind, .string q.job.name, .int .i64 q.job.prio, .int .i64 q.job.need, .int .i64 q.job.tries, .string q.job.tag, .string q.node.name, .int .i64 q.node.room, .string q.node.zone, .string q.lease.job, .string q.lease.node, .int .i64 q.lease.till, .string q.name, .int .i64 q.n] ∧ Blk W g 143 #[.string q.node.name, .int .i64 q.node.room, .string q.node.zone]) (by kernel_rfl) G0 (fun hHeld => ?_)
  refine tk 0 (v := ?_) rfl (Or.inl ⟨by rfl, ?_⟩) ?_
  rotate_left
  ·(intro w5 hw5; obtain ⟨hb1_, hb2_⟩ := hw5; have q1 := hb1_.cell; go_simp; (try with_reducible rfl))
  (try simp only [Act.put, ma, mb, mc, md, me, mf])
  refine tk 1 (v := ?_) rfl (Or.inl ⟨by rfl, ?_⟩) ?_
  rotate_left
  ·(intro w5 hw5; obtain ⟨hb1_, hb2_⟩ := hw5; have q1 := hb1_.cell; go_simp; (try with_reducible rfl))
  (try simp only [Act.put, ma, mb, mc, md, me, mf])
  refine tk 2 (v := ?_) rfl (Or.inl ⟨by rfl, ?_⟩) ?_
  rotate_left
  ·(intro w5 hw5; obtain ⟨hb1_, hb2_⟩ := hw5; have q1 := hb1_.cell; go_simp; (try with_reducible rfl))
  (try simp only [Act.put, ma, mb, mc, md, me, mf])
  refine tk 4 (v := ?_) rfl (Or.inl ⟨by rfl, ?_⟩) ?_
  rotate_left
  ·(intro w5 hw5; obtain ⟨hb1_, hb2_⟩ := hw5; have q1 := hb1_.cell; go_simp; (try with_reducible rfl))
  (try simp only [Act.put, ma, mb, mc, md, me, mf])
  refine tr 3 rfl (fun K hK => ?_)
  go_simp
  refine (HW.out w1.drew g G0.2).mono ?_
  rintro e w2 ⟨rfl, hb2⟩
  have hB2 := hB1.trans (((Below.refl _ w1).drew.trans (hb2.mono (Nat.le_refl _))).mono hB1.size)
  have G1 : Blk w2 w.heap.size 43 #[.int .i64 q.kind, .string q.job.name, .int .i64 q.job.prio, .int .i64 q.job.need, .int .i64 q.job.tries, .string q.job.tag, .string q.node.name, .int .i64 q.node.room, .string q.node.zone, .string q.lease.job, .string q.lease.node, .int .i64 q.lease.till, .string q.name, .int .i64 q.n] ∧ Blk w2 g 143 #[.string q.node.name, .int .i64 q.node.room, .string q.node.zone] := ⟨G0.1.below hb2 G0.1.lt, G0.2.below hb2 G0.2.lt⟩
  clear hb2 hB1
  refine hK.out _ _ ?_ (fun hHeld => ?_)
  ·exact G1
  clear hK K
  (try simp only [Act.put, ma, mb, mc, md, me, mf])
  refine tk 5 (v := ?_) rfl (Or.inl ⟨by rfl, ?_⟩) ?_
  rotate_left
  ·(intro w5 hw5; obtain ⟨hb1_, hb2_⟩ := hw5; have q1 := hb1_.cell; go_simp; (try with_reducible rfl))
  (try simp only [Act.put, ma, mb, mc, md, me, mf])
  refine tk 6 (v := ?_) rfl (Or.inl ⟨by rfl, ?_⟩) ?_
  rotate_left
  ·(intro w5 hw5; obtain ⟨hb1_, hb2_⟩ := hw5; have q1 := hb1_.cell; go_simp; (try with_reducible rfl))
  (try simp only [Act.put, ma, mb, mc, md, me, mf])
  refine wpAnyH_done (by kernel_rfl) ?_ _
  obtain ⟨bq2, bg2⟩ := G1
  clear G0 hHeld bq1 bg1
  have HC2 := Lib.hid (HC.out w2 g bg2 hB2)
  go_wp2_with fail
  refine HC2.out.mono ?_
  rintro e w3 ⟨rfl, hb3⟩
  have hB3 := hB2.trans (hb3.mono hB2.size)
  go_wp2_with fail
  go_ret
  refine ⟨?_, hB3⟩
  rw [HR.out, if_pos (by trivial)]
  rfl
theorem reqCheckL (q : ReqD) (w : World) (HS : ReqSz q) (hT : Tabs w) (hkind : q.kind = 5) :
  Calls Tryz.prog 23 #[.agg #[.int .i64 q.kind, .string q.job.name, .int .i64 q.job.prio, .int .i64 q.job.need, .int .i64 q.job.tries, .string q.job.tag, .string q.node.name, .int .i64 q.node.room, .string q.node.zone, .string q.lease.job, .string q.lease.node, .int .i64 q.lease.till, .string q.name, .int .i64 q.n]] w fun e w' => e = .returned (.int .i64 ((reqE q : Nat) : Int)) ∧ Below w.heap.size w w' := by
 have hw : wholeR q = ⟨q.kind, noJ, noN, q.lease, ByteArray.empty, 0⟩ := by unfold wholeR; simp [hkind]
 have hp : partE q = leaseC q.lease := by unfold partE; simp [hkind]
 have hR : reqE q = if decide ((⟨q.kind, noJ, noN, q.lease, ByteArray.empty, 0⟩ : ReqD) = q) = true then leaseC q.lease else 4 := by
  unfold reqE
  rw [if_pos (by omega), hw, hp]
  by_cases h : (⟨q.kind, noJ, noN, q.lease, ByteArray.empty, 0⟩ : ReqD) = q <;> simp [h]
 have HP := Lib.hid (fun (W : World) => partOfL q hkind W)
 have HW := Lib.hid (fun (W : World) (g : Nat) (bg : Blk W g 146 #[.string q.lease.job, .string q.lease.node, .int .i64 q.lease.till]) => wholeL q.kind q.lease g W bg)
 have HC := Lib.hid (fun (W : World) (g : Nat) (bg : Blk W g 146 #[.string q.lease.job, .string q.lease.node, .int .i64 q.lease.till]) (hW : Below w.heap.size w W) => checkL q.lease g W bg HS.lj HS.ln (hT.below hW))
 have hE := eqInQ ⟨q.kind, noJ, noN, q.lease, ByteArray.empty, 0⟩ q
 have hE2 := eqGuardQ
 generalize hbb : decide ((⟨q.kind, noJ, noN, q.lease, ByteArray.empty, 0⟩ : ReqD) = q) = b at *
 dsimp only [noJ, noN, noL] at hE
 have HR := Lib.hid hR
 clear hkind hw hp hR hT HS hbb
 have hb0 : Below w.heap.size w (w.alloc (.cells #[.int .i64 q.kind, .string q.job.name, .int .i64 q.job.prio, .int .i64 q.job.need, .int .i64 q.job.tries, .string q.job.tag, .string q.node.name, .int .i64 q.node.room, .string q.node.zone, .string q.lease.job, .string q.lease.node, .int .i64 q.lease.till, .string q.name, .int .i64 q.n] 43)) := (Below.refl _ _).alloc (Nat.le_refl _) _
 have bq0 := Blk.new w 43 #[.int .i64 q.kind, .string q.job.name, .int .i64 q.job.prio, .int .i64 q.job.need, .int .i64 q.job.tries, .string q.job.tag, .string q.node.name, .int .i64 q.node.room, .string q.node.zone, .string q.lease.job, .string q.lease.node, .int .i64 q.lease.till, .string q.name, .int .i64 q.n]
 go_enter Tryz.func23, Tryz.ntmps23
 go_upto_region 1 with fail
 generalize w.alloc _ = w0 at *
 go_wp2_with (first | (refine wpList_load_blk rfl _ _ rfl w.heap.size rfl _ _ bq0 _ Tryz.underlying43 rfl request_size ?_))
 refine (HP.out w0).mono ?_
 rintro e w1 ⟨g, rfl, hg, bg1, hb1⟩
 have hB1 := hb0.trans (hb1.mono hb0.size)
 have bq1 := bq0.below hb1 bq0.lt
 clear hb1 hb0 bq0 hg
 go_upto_region 4 with fail
 cases b
 ·have G0 : Blk w1.drew w.heap.size 43 #[.int .i64 q.kind, .string q.job.name, .int .i64 q.job.prio, .int .i64 q.job.need, .int .i64 q.job.tries, .string q.job.tag, .string q.node.name, .int .i64 q.node.room, .string q.node.zone, .string q.lease.job, .string q.lease.node, .int .i64 q.lease.till, .string q.name, .int .i64 q.n] ∧ Blk w1.drew g 146 #[.string q.lease.job, .string q.lease.node, .int .i64 q.lease.till] := ⟨bq1.drew, bg1.drew⟩
  refine wp_region_held_drew (S := fun W => Blk W w.heap.size 43 #[.int .i64 q.kind, .string q.job.name, .int .i64 q.job.prio, .int .i64 q.job.need, .int .i64 q.job.tries, .string q.job.tag, .string q.node.name, .int .i64 q.node.room, .string q.node.zone, .string q.lease.job, .string q.lease.node, .int .i64 q.lease.till, .string q.name, .int .i64 q.n] ∧ Blk W g 146 #[.string q.lease.job, .string q.lease.node, .int .i64 q.lease.till]) (by kernel_rfl) G0 (fun hHeld => ?_)
  refine tk 0 (v := ?_) rfl (Or.inl ⟨by rfl, ?_⟩) ?_
  rotate_left
  ·(intro w5 hw5; obtain ⟨hb1_, hb2_⟩ := hw5; have q1 := hb1_.cell; go_simp; (try with_reducible rfl))
  (try simp only [Act.put, ma, mb, mc, md, me, mf])
  refine tk 1 (v := ?_) rfl (Or.inl ⟨by rfl, ?_⟩) ?_
  rotate_left
  ·(intro w5 hw5; obtain ⟨hb1_, hb2_⟩ := hw5; have q1 := hb1_.cell; go_simp; (try with_reducible rfl))
  (try simp only [Act.put, ma, mb, mc, md, me, mf])
  refine tk 2 (v := ?_) rfl (Or.inl ⟨by rfl, ?_⟩) ?_
  rotate_left
  ·(intro w5 hw5; obtain ⟨hb1_, hb2_⟩ := hw5; have q1 := hb1_.cell; go_simp; (try with_reducible rfl))
  (try simp only [Act.put, ma, mb, mc, md, me, mf])
  refine tk 4 (v := ?_) rfl (Or.inl ⟨by rfl, ?_⟩) ?_
  rotate_left
  ·(intro w5 hw5; obtain ⟨hb1_, hb2_⟩ := hw5; have q1 := hb1_.cell; go_simp; (try with_reducible rfl))
  (try simp only [Act.put, ma, mb, mc, md, me, mf])
  refine tr 3 rfl (fun K hK => ?_)
  go_simp
  refine (HW.out w1.drew g G0.2).mono ?_
  rintro e w2 ⟨rfl, hb2⟩
  have hB2 := hB1.trans (((Below.refl _ w1).drew.trans (hb2.mono (Nat.le_refl _))).mono hB1.size)
  have G1 : Blk w2 w.heap.size 43 #[.int .i64 q.kind, .string q.job.name, .int .i64 q.job.prio, .int .i64 q.job.need, .int .i64 q.job.tries, .string q.job.tag, .string q.node.name, .int .i64 q.node.room, .string q.node.zone, .string q.lease.job, .string q.lease.node, .int .i64 q.lease.till, .string q.name, .int .i64 q.n] ∧ Blk w2 g 146 #[.string q.lease.job, .string q.lease.node, .int .i64 q.lease.till] := ⟨G0.1.below hb2 G0.1.lt, G0.2.below hb2 G0.2.lt⟩
  clear hb2 hB1
  refine hK.out _ _ ?_ (fun hHeld => ?_)
  ·exact G1
  clear hK K
  (try simp only [Act.put, ma, mb, mc, md, me, mf])
  refine tk 5 (v := ?_) rfl (Or.inl ⟨by rfl, ?_⟩) ?_
  rotate_left
  ·(intro w5 hw5; obtain ⟨hb1_, hb2_⟩ := hw5; have q1 := hb1_.cell; go_simp; (try with_reducible rfl))
  (try simp only [Act.put, ma, mb, mc, md, me, mf])
  refine tk 6 (v := ?_) rfl (Or.inl ⟨by rfl, ?_⟩) ?_
  rotate_left
  ·(intro w5 hw5; obtain ⟨hb1_, hb2_⟩ := hw5; have q1 := hb1_.cell; go_simp; (try with_reducible rfl))
  (try simp only [Act.put, ma, mb, mc, md, me, mf])
  refine wpAnyH_done (by kernel_rfl) ?_ _
  obtain ⟨bq2, bg2⟩ := G1
  clear G0 hHeld bq1 bg1
  go_wp2_with fail
  go_ret
  refine ⟨?_, hB2⟩
  rw [HR.out, if_neg (by simp)]
  rfl
 ·have G0 : Blk w1.drew w.heap.size 43 #[.int .i64 q.kind, .string q.job.name, .int .i64 q.job.prio, .int .i64 q.job.need, .int .i64 q.job.tries, .string q.job.tag, .string q.node.name, .int .i64 q.node.room, .string q.node.zone, .string q.lease.job, .string q.lease.node, .int .i64 q.lease.till, .string q.name, .int .i64 q.n] ∧ Blk w1.drew g 146 #[.string q.lease.job, .string q.lease.node, .int .i64 q.lease.till] := ⟨bq1.drew, bg1.drew⟩
  refine wp_region_held_drew (S := fun W => Blk W w.heap.size 43 #[.int .i64 q.kind, .string q.job.name, .int .i64 q.job.prio, .int .i64 q.job.need, .int .i64 q.job.tries, .string q.job.tag, .string q.node.name, .int .i64 q.node.room, .string q.node.zone, .string q.lease.job, .string q.lease.node, .int .i64 q.lease.till, .string q.name, .int .i64 q.n] ∧ Blk W g 146 #[.string q.lease.job, .string q.lease.node, .int .i64 q.lease.till]) (by kernel_rfl) G0 (fun hHeld => ?_)
  refine tk 0 (v := ?_) rfl (Or.inl ⟨by rfl, ?_⟩) ?_
  rotate_left
  ·(intro w5 hw5; obtain ⟨hb1_, hb2_⟩ := hw5; have q1 := hb1_.cell; go_simp; (try with_reducible rfl))
  (try simp only [Act.put, ma, mb, mc, md, me, mf])
  refine tk 1 (v := ?_) rfl (Or.inl ⟨by rfl, ?_⟩) ?_
  rotate_left
  ·(intro w5 hw5; obtain ⟨hb1_, hb2_⟩ := hw5; have q1 := hb1_.cell; go_simp; (try with_reducible rfl))
  (try simp only [Act.put, ma, mb, mc, md, me, mf])
  refine tk 2 (v := ?_) rfl (Or.inl ⟨by rfl, ?_⟩) ?_
  rotate_left
  ·(intro w5 hw5; obtain ⟨hb1_, hb2_⟩ := hw5; have q1 := hb1_.cell; go_simp; (try with_reducible rfl))
  (try simp only [Act.put, ma, mb, mc, md, me, mf])
  refine tk 4 (v := ?_) rfl (Or.inl ⟨by rfl, ?_⟩) ?_
  rotate_left
  ·(intro w5 hw5; obtain ⟨hb1_, hb2_⟩ := hw5; have q1 := hb1_.cell; go_simp; (try with_reducible rfl))
  (try simp only [Act.put, ma, mb, mc, md, me, mf])
  refine tr 3 rfl (fun K hK => ?_)
  go_simp
  refine (HW.out w1.drew g G0.2).mono ?_
  rintro e w2 ⟨rfl, hb2⟩
  have hB2 := hB1.trans (((Below.refl _ w1).drew.trans (hb2.mono (Nat.le_refl _))).mono hB1.size)
  have G1 : Blk w2 w.heap.size 43 #[.int .i64 q.kind, .string q.job.name, .int .i64 q.job.prio, .int .i64 q.job.need, .int .i64 q.job.tries, .string q.job.tag, .string q.node.name, .int .i64 q.node.room, .string q.node.zone, .string q.lease.job, .string q.lease.node, .int .i64 q.lease.till, .string q.name, .int .i64 q.n] ∧ Blk w2 g 146 #[.string q.lease.job, .string q.lease.node, .int .i64 q.lease.till] := ⟨G0.1.below hb2 G0.1.lt, G0.2.below hb2 G0.2.lt⟩
  clear hb2 hB1
  refine hK.out _ _ ?_ (fun hHeld => ?_)
  ·exact G1
  clear hK K
  (try simp only [Act.put, ma, mb, mc, md, me, mf])
  refine tk 5 (v := ?_) rfl (Or.inl ⟨by rfl, ?_⟩) ?_
  rotate_left
  ·(intro w5 hw5; obtain ⟨hb1_, hb2_⟩ := hw5; have q1 := hb1_.cell; go_simp; (try with_reducible rfl))
  (try simp only [Act.put, ma, mb, mc, md, me, mf])
  refine tk 6 (v := ?_) rfl (Or.inl ⟨by rfl, ?_⟩) ?_
  rotate_left
  ·(intro w5 hw5; obtain ⟨hb1_, hb2_⟩ := hw5; have q1 := hb1_.cell; go_simp; (try with_reducible rfl))
  (try simp only [Act.put, ma, mb, mc, md, me, mf])
  refine wpAnyH_done (by kernel_rfl) ?_ _
  obtain ⟨bq2, bg2⟩ := G1
  clear G0 hHeld bq1 bg1
  have HC2 := Lib.hid (HC.out w2 g bg2 hB2)
  go_wp2_with fail
  refine HC2.out.mono ?_
  rintro e w3 ⟨rfl, hb3⟩
  have hB3 := hB2.trans (hb3.mono hB2.size)
  go_wp2_with fail
  go_ret
  refine ⟨?_, hB3⟩
  rw [HR.out, if_pos (by trivial)]
  rfl
theorem reqCheckS (q : ReqD) (w : World) (HS : ReqSz q) (hT : Tabs w) (hkind : q.kind = 3 ∨ q.kind = 4 ∨ q.kind = 6) :
  Calls Tryz.prog 23 #[.agg #[.int .i64 q.kind, .string q.job.name, .int .i64 q.job.prio, .int .i64 q.job.need, .int .i64 q.job.tries, .string q.job.tag, .string q.node.name, .int .i64 q.node.room, .string q.node.zone, .string q.lease.job, .string q.lease.node, .int .i64 q.lease.till, .string q.name, .int .i64 q.n]] w fun e w' => e = .returned (.int .i64 ((reqE q : Nat) : Int)) ∧ Below w.heap.size w w' := by
 have hw : wholeR q = ⟨q.kind, noJ, noN, noL, q.name, 0⟩ := by unfold wholeR; rcases hkind with h | h | h <;> simp [h]
 have hp : partE q = nameC q.name := by unfold partE nameC; rcases hkind with h | h | h <;> simp [h]
 have hR : reqE q = if decide ((⟨q.kind, noJ, noN, noL, q.name, 0⟩ : ReqD) = q) = true then nameC q.name else 4 := by
  unfold reqE
  rw [if_pos (by omega), hw, hp]
  by_cases h : (⟨q.kind, noJ, noN, noL, q.name, 0⟩ : ReqD) = q <;> simp [h]
 have HP := Lib.hid (fun (W : World) => show Calls Tryz.prog 38 #[.agg #[.int .i64 q.kind, .string q.job.name, .int .i64 q.job.prio, .int .i64 q.job.need, .int .i64 q.job.tries, .string q.job.tag, .string q.node.name, .int .i64 q.node.room, .string q.node.zone, .string q.lease.job, .string q.lease.node, .int .i64 q.lease.till, .string q.name, .int .i64 q.n]] W (fun e w' => ∃ g, e = .returned (.iface 148 (.pointer (some ⟨g, 0, none⟩))) ∧ W.heap.size ≤ g ∧ Blk w' g 147 #[.string q.name] ∧ Below W.heap.size W w') from by rcases hkind with h | h | h; exact partOfS3 q h W; exact partOfS4 q h W; exact partOfS6 q h W)
 have HW := Lib.hid (fun (W : World) (g : Nat) (bg : Blk W g 147 #[.string q.name]) => wholeS q.kind q.name g W bg)
 have HC := Lib.hid (fun (W : World) (g : Nat) (bg : Blk W g 147 #[.string q.name]) (hW : Below w.heap.size w W) => checkS q.name g W bg HS.nm (hT.below hW))
 have hE := eqInQ ⟨q.kind, noJ, noN, noL, q.name, 0⟩ q
 have hE2 := eqGuardQ
 generalize hbb : decide ((⟨q.kind, noJ, noN, noL, q.name, 0⟩ : ReqD) = q) = b at *
 dsimp only [noJ, noN, noL] at hE
 have HR := Lib.hid hR
 clear hkind hw hp hR hT HS hbb
 have hb0 : Below w.heap.size w (w.alloc (.cells #[.int .i64 q.kind, .string q.job.name, .int .i64 q.job.prio, .int .i64 q.job.need, .int .i64 q.job.tries, .string q.job.tag, .string q.node.name, .int .i64 q.node.room, .string q.node.zone, .string q.lease.job, .string q.lease.node, .int .i64 q.lease.till, .string q.name, .int .i64 q.n] 43)) := (Below.refl _ _).alloc (Nat.le_refl _) _
 have bq0 := Blk.new w 43 #[.int .i64 q.kind, .string q.job.name, .int .i64 q.job.prio, .int .i64 q.job.need, .int .i64 q.job.tries, .string q.job.tag, .string q.node.name, .int .i64 q.node.room, .string q.node.zone, .string q.lease.job, .string q.lease.node, .int .i64 q.lease.till, .string q.name, .int .i64 q.n]
 go_enter Tryz.func23, Tryz.ntmps23
 go_upto_region 1 with fail
 generalize w.alloc _ = w0 at *
 go_wp2_with (first | (refine wpList_load_blk rfl _ _ rfl w.heap.size rfl _ _ bq0 _ Tryz.underlying43 rfl request_size ?_))
 refine (HP.out w0).mono ?_
 rintro e w1 ⟨g, rfl, hg, bg1, hb1⟩
 have hB1 := hb0.trans (hb1.mono hb0.size)
 have bq1 := bq0.below hb1 bq0.lt
 clear hb1 hb0 bq0 hg
 go_upto_region 4 with fail
 cases b
 ·have G0 : Blk w1.drew w.heap.size 43 #[.int .i64 q.kind, .string q.job.name, .int .i64 q.job.prio, .int .i64 q.job.need, .int .i64 q.job.tries, .string q.job.tag, .string q.node.name, .int .i64 q.node.room, .string q.node.zone, .string q.lease.job, .string q.lease.node, .int .i64 q.lease.till, .string q.name, .int .i64 q.n] ∧ Blk w1.drew g 147 #[.string q.name] := ⟨bq1.drew, bg1.drew⟩
  refine wp_region_held_drew (S := fun W => Blk W w.heap.size 43 #[.int .i64 q.kind, .string q.job.name, .int .i64 q.job.prio, .int .i64 q.job.need, .int .i64 q.job.tries, .string q.job.tag, .string q.node.name, .int .i64 q.node.room, .string q.node.zone, .string q.lease.job, .string q.lease.node, .int .i64 q.lease.till, .string q.name, .int .i64 q.n] ∧ Blk W g 147 #[.string q.name]) (by kernel_rfl) G0 (fun hHeld => ?_)
  refine tk 0 (v := ?_) rfl (Or.inl ⟨by rfl, ?_⟩) ?_
  rotate_left
  ·(intro w5 hw5; obtain ⟨hb1_, hb2_⟩ := hw5; have q1 := hb1_.cell; go_simp; (try with_reducible rfl))
  (try simp only [Act.put, ma, mb, mc, md, me, mf])
  refine tk 1 (v := ?_) rfl (Or.inl ⟨by rfl, ?_⟩) ?_
  rotate_left
  ·(intro w5 hw5; obtain ⟨hb1_, hb2_⟩ := hw5; have q1 := hb1_.cell; go_simp; (try with_reducible rfl))
  (try simp only [Act.put, ma, mb, mc, md, me, mf])
  refine tk 2 (v := ?_) rfl (Or.inl ⟨by rfl, ?_⟩) ?_
  rotate_left
  ·(intro w5 hw5; obtain ⟨hb1_, hb2_⟩ := hw5; have q1 := hb1_.cell; go_simp; (try with_reducible rfl))
  (try simp only [Act.put, ma, mb, mc, md, me, mf])
  refine tk 4 (v := ?_) rfl (Or.inl ⟨by rfl, ?_⟩) ?_
  rotate_left
  ·(intro w5 hw5; obtain ⟨hb1_, hb2_⟩ := hw5; have q1 := hb1_.cell; go_simp; (try with_reducible rfl))
  (try simp only [Act.put, ma, mb, mc, md, me, mf])
  refine tr 3 rfl (fun K hK => ?_)
  go_simp
  refine (HW.out w1.drew g G0.2).mono ?_
  rintro e w2 ⟨rfl, hb2⟩
  have hB2 := hB1.trans (((Below.refl _ w1).drew.trans (hb2.mono (Nat.le_refl _))).mono hB1.size)
  have G1 : Blk w2 w.heap.size 43 #[.int .i64 q.kind, .string q.job.name, .int .i64 q.job.prio, .int .i64 q.job.need, .int .i64 q.job.tries, .string q.job.tag, .string q.node.name, .int .i64 q.node.room, .string q.node.zone, .string q.lease.job, .string q.lease.node, .int .i64 q.lease.till, .string q.name, .int .i64 q.n] ∧ Blk w2 g 147 #[.string q.name] := ⟨G0.1.below hb2 G0.1.lt, G0.2.below hb2 G0.2.lt⟩
  clear hb2 hB1
  refine hK.out _ _ ?_ (fun hHeld => ?_)
  ·exact G1
  clear hK K
  (try simp only [Act.put, ma, mb, mc, md, me, mf])
  refine tk 5 (v := ?_) rfl (Or.inl ⟨by rfl, ?_⟩) ?_
  rotate_left
  ·(intro w5 hw5; obtain ⟨hb1_, hb2_⟩ := hw5; have q1 := hb1_.cell; go_simp; (try with_reducible rfl))
  (try simp only [Act.put, ma, mb, mc, md, me, mf])
  refine tk 6 (v := ?_) rfl (Or.inl ⟨by rfl, ?_⟩) ?_
  rotate_left
  ·(intro w5 hw5; obtain ⟨hb1_, hb2_⟩ := hw5; have q1 := hb1_.cell; go_simp; (try with_reducible rfl))
  (try simp only [Act.put, ma, mb, mc, md, me, mf])
  refine wpAnyH_done (by kernel_rfl) ?_ _
  obtain ⟨bq2, bg2⟩ := G1
  clear G0 hHeld bq1 bg1
  go_wp2_with fail
  go_ret
  refine ⟨?_, hB2⟩
  rw [HR.out, if_neg (by simp)]
  rfl
 ·have G0 : Blk w1.drew w.heap.size 43 #[.int .i64 q.kind, .string q.job.name, .int .i64 q.job.prio, .int .i64 q.job.need, .int .i64 q.job.tries, .string q.job.tag, .string q.node.name, .int .i64 q.node.room, .string q.node.zone, .string q.lease.job, .string q.lease.node, .int .i64 q.lease.till, .string q.name, .int .i64 q.n] ∧ Blk w1.drew g 147 #[.string q.name] := ⟨bq1.drew, bg1.drew⟩
  refine wp_region_held_drew (S := fun W => Blk W w.heap.size 43 #[.int .i64 q.kind, .string q.job.name, .int .i64 q.job.prio, .int .i64 q.job.need, .int .i64 q.job.tries, .string q.job.tag, .string q.node.name, .int .i64 q.node.room, .string q.node.zone, .string q.lease.job, .string q.lease.node, .int .i64 q.lease.till, .string q.name, .int .i64 q.n] ∧ Blk W g 147 #[.string q.name]) (by kernel_rfl) G0 (fun hHeld => ?_)
  refine tk 0 (v := ?_) rfl (Or.inl ⟨by rfl, ?_⟩) ?_
  rotate_left
  ·(intro w5 hw5; obtain ⟨hb1_, hb2_⟩ := hw5; have q1 := hb1_.cell; go_simp; (try with_reducible rfl))
  (try simp only [Act.put, ma, mb, mc, md, me, mf])
  refine tk 1 (v := ?_) rfl (Or.inl ⟨by rfl, ?_⟩) ?_
  rotate_left
  ·(intro w5 hw5; obtain ⟨hb1_, hb2_⟩ := hw5; have q1 := hb1_.cell; go_simp; (try with_reducible rfl))
  (try simp only [Act.put, ma, mb, mc, md, me, mf])
  refine tk 2 (v := ?_) rfl (Or.inl ⟨by rfl, ?_⟩) ?_
  rotate_left
  ·(intro w5 hw5; obtain ⟨hb1_, hb2_⟩ := hw5; have q1 := hb1_.cell; go_simp; (try with_reducible rfl))
  (try simp only [Act.put, ma, mb, mc, md, me, mf])
  refine tk 4 (v := ?_) rfl (Or.inl ⟨by rfl, ?_⟩) ?_
  rotate_left
  ·(intro w5 hw5; obtain ⟨hb1_, hb2_⟩ := hw5; have q1 := hb1_.cell; go_simp; (try with_reducible rfl))
  (try simp only [Act.put, ma, mb, mc, md, me, mf])
  refine tr 3 rfl (fun K hK => ?_)
  go_simp
  refine (HW.out w1.drew g G0.2).mono ?_
  rintro e w2 ⟨rfl, hb2⟩
  have hB2 := hB1.trans (((Below.refl _ w1).drew.trans (hb2.mono (Nat.le_refl _))).mono hB1.size)
  have G1 : Blk w2 w.heap.size 43 #[.int .i64 q.kind, .string q.job.name, .int .i64 q.job.prio, .int .i64 q.job.need, .int .i64 q.job.tries, .string q.job.tag, .string q.node.name, .int .i64 q.node.room, .string q.node.zone, .string q.lease.job, .string q.lease.node, .int .i64 q.lease.till, .string q.name, .int .i64 q.n] ∧ Blk w2 g 147 #[.string q.name] := ⟨G0.1.below hb2 G0.1.lt, G0.2.below hb2 G0.2.lt⟩
  clear hb2 hB1
  refine hK.out _ _ ?_ (fun hHeld => ?_)
  ·exact G1
  clear hK K
  (try simp only [Act.put, ma, mb, mc, md, me, mf])
  refine tk 5 (v := ?_) rfl (Or.inl ⟨by rfl, ?_⟩) ?_
  rotate_left
  ·(intro w5 hw5; obtain ⟨hb1_, hb2_⟩ := hw5; have q1 := hb1_.cell; go_simp; (try with_reducible rfl))
  (try simp only [Act.put, ma, mb, mc, md, me, mf])
  refine tk 6 (v := ?_) rfl (Or.inl ⟨by rfl, ?_⟩) ?_
  rotate_left
  ·(intro w5 hw5; obtain ⟨hb1_, hb2_⟩ := hw5; have q1 := hb1_.cell; go_simp; (try with_reducible rfl))
  (try simp only [Act.put, ma, mb, mc, md, me, mf])
  refine wpAnyH_done (by kernel_rfl) ?_ _
  obtain ⟨bq2, bg2⟩ := G1
  clear G0 hHeld bq1 bg1
  have HC2 := Lib.hid (HC.out w2 g bg2 hB2)
  go_wp2_with fail
  refine HC2.out.mono ?_
  rintro e w3 ⟨rfl, hb3⟩
  have hB3 := hB2.trans (hb3.mono hB2.size)
  go_wp2_with fail
  go_ret
  refine ⟨?_, hB3⟩
  rw [HR.out, if_pos (by trivial)]
  rfl
theorem reqCheckC (q : ReqD) (w : World) (HS : ReqSz q) (hT : Tabs w) (hkind : q.kind = 7) :
  Calls Tryz.prog 23 #[.agg #[.int .i64 q.kind, .string q.job.name, .int .i64 q.job.prio, .int .i64 q.job.need, .int .i64 q.job.tries, .string q.job.tag, .string q.node.name, .int .i64 q.node.room, .string q.node.zone, .string q.lease.job, .string q.lease.node, .int .i64 q.lease.till, .string q.name, .int .i64 q.n]] w fun e w' => e = .returned (.int .i64 ((reqE q : Nat) : Int)) ∧ Below w.heap.size w w' := by
 have hw : wholeR q = ⟨q.kind, noJ, noN, noL, ByteArray.empty, q.n⟩ := by unfold wholeR; simp [hkind]
 have hp : partE q = countC q.n := by unfold partE countC; simp [hkind]
 have hR : reqE q = if decide ((⟨q.kind, noJ, noN, noL, ByteArray.empty, q.n⟩ : ReqD) = q) = true then countC q.n else 4 := by
  unfold reqE
  rw [if_pos (by omega), hw, hp]
  by_cases h : (⟨q.kind, noJ, noN, noL, ByteArray.empty, q.n⟩ : ReqD) = q <;> simp [h]
 have HP := Lib.hid (fun (W : World) => partOfC q hkind W)
 have HW := Lib.hid (fun (W : World) (g : Nat) (bg : Blk W g 149 #[.int .i64 q.n]) => wholeC q.kind q.n g W bg)
 have HC := Lib.hid (fun (W : World) (g : Nat) (bg : Blk W g 149 #[.int .i64 q.n]) (hW : Below w.heap.size w W) => checkC q.n g W bg )
 have hE := eqInQ ⟨q.kind, noJ, noN, noL, ByteArray.empty, q.n⟩ q
 have hE2 := eqGuardQ
 generalize hbb : decide ((⟨q.kind, noJ, noN, noL, ByteArray.empty, q.n⟩ : ReqD) = q) = b at *
 dsimp only [noJ, noN, noL] at hE
 have HR := Lib.hid hR
 clear hkind hw hp hR hT HS hbb
 have hb0 : Below w.heap.size w (w.alloc (.cells #[.int .i64 q.kind, .string q.job.name, .int .i64 q.job.prio, .int .i64 q.job.need, .int .i64 q.job.tries, .string q.job.tag, .string q.node.name, .int .i64 q.node.room, .string q.node.zone, .string q.lease.job, .string q.lease.node, .int .i64 q.lease.till, .string q.name, .int .i64 q.n] 43)) := (Below.refl _ _).alloc (Nat.le_refl _) _
 have bq0 := Blk.new w 43 #[.int .i64 q.kind, .string q.job.name, .int .i64 q.job.prio, .int .i64 q.job.need, .int .i64 q.job.tries, .string q.job.tag, .string q.node.name, .int .i64 q.node.room, .string q.node.zone, .string q.lease.job, .string q.lease.node, .int .i64 q.lease.till, .string q.name, .int .i64 q.n]
 go_enter Tryz.func23, Tryz.ntmps23
 go_upto_region 1 with fail
 generalize w.alloc _ = w0 at *
 go_wp2_with (first | (refine wpList_load_blk rfl _ _ rfl w.heap.size rfl _ _ bq0 _ Tryz.underlying43 rfl request_size ?_))
 refine (HP.out w0).mono ?_
 rintro e w1 ⟨g, rfl, hg, bg1, hb1⟩
 have hB1 := hb0.trans (hb1.mono hb0.size)
 have bq1 := bq0.below hb1 bq0.lt
 clear hb1 hb0 bq0 hg
 go_upto_region 4 with fail
 cases b
 ·have G0 : Blk w1.drew w.heap.size 43 #[.int .i64 q.kind, .string q.job.name, .int .i64 q.job.prio, .int .i64 q.job.need, .int .i64 q.job.tries, .string q.job.tag, .string q.node.name, .int .i64 q.node.room, .string q.node.zone, .string q.lease.job, .string q.lease.node, .int .i64 q.lease.till, .string q.name, .int .i64 q.n] ∧ Blk w1.drew g 149 #[.int .i64 q.n] := ⟨bq1.drew, bg1.drew⟩
  refine wp_region_held_drew (S := fun W => Blk W w.heap.size 43 #[.int .i64 q.kind, .string q.job.name, .int .i64 q.job.prio, .int .i64 q.job.need, .int .i64 q.job.tries, .string q.job.tag, .string q.node.name, .int .i64 q.node.room, .string q.node.zone, .string q.lease.job, .string q.lease.node, .int .i64 q.lease.till, .string q.name, .int .i64 q.n] ∧ Blk W g 149 #[.int .i64 q.n]) (by kernel_rfl) G0 (fun hHeld => ?_)
  refine tk 0 (v := ?_) rfl (Or.inl ⟨by rfl, ?_⟩) ?_
  rotate_left
  ·(intro w5 hw5; obtain ⟨hb1_, hb2_⟩ := hw5; have q1 := hb1_.cell; go_simp; (try with_reducible rfl))
  (try simp only [Act.put, ma, mb, mc, md, me, mf])
  refine tk 1 (v := ?_) rfl (Or.inl ⟨by rfl, ?_⟩) ?_
  rotate_left
  ·(intro w5 hw5; obtain ⟨hb1_, hb2_⟩ := hw5; have q1 := hb1_.cell; go_simp; (try with_reducible rfl))
  (try simp only [Act.put, ma, mb, mc, md, me, mf])
  refine tk 2 (v := ?_) rfl (Or.inl ⟨by rfl, ?_⟩) ?_
  rotate_left
  ·(intro w5 hw5; obtain ⟨hb1_, hb2_⟩ := hw5; have q1 := hb1_.cell; go_simp; (try with_reducible rfl))
  (try simp only [Act.put, ma, mb, mc, md, me, mf])
  refine tk 4 (v := ?_) rfl (Or.inl ⟨by rfl, ?_⟩) ?_
  rotate_left
  ·(intro w5 hw5; obtain ⟨hb1_, hb2_⟩ := hw5; have q1 := hb1_.cell; go_simp; (try with_reducible rfl))
  (try simp only [Act.put, ma, mb, mc, md, me, mf])
  refine tr 3 rfl (fun K hK => ?_)
  go_simp
  refine (HW.out w1.drew g G0.2).mono ?_
  rintro e w2 ⟨rfl, hb2⟩
  have hB2 := hB1.trans (((Below.refl _ w1).drew.trans (hb2.mono (Nat.le_refl _))).mono hB1.size)
  have G1 : Blk w2 w.heap.size 43 #[.int .i64 q.kind, .string q.job.name, .int .i64 q.job.prio, .int .i64 q.job.need, .int .i64 q.job.tries, .string q.job.tag, .string q.node.name, .int .i64 q.node.room, .string q.node.zone, .string q.lease.job, .string q.lease.node, .int .i64 q.lease.till, .string q.name, .int .i64 q.n] ∧ Blk w2 g 149 #[.int .i64 q.n] := ⟨G0.1.below hb2 G0.1.lt, G0.2.below hb2 G0.2.lt⟩
  clear hb2 hB1
  refine hK.out _ _ ?_ (fun hHeld => ?_)
  ·exact G1
  clear hK K
  (try simp only [Act.put, ma, mb, mc, md, me, mf])
  refine tk 5 (v := ?_) rfl (Or.inl ⟨by rfl, ?_⟩) ?_
  rotate_left
  ·(intro w5 hw5; obtain ⟨hb1_, hb2_⟩ := hw5; have q1 := hb1_.cell; go_simp; (try with_reducible rfl))
  (try simp only [Act.put, ma, mb, mc, md, me, mf])
  refine tk 6 (v := ?_) rfl (Or.inl ⟨by rfl, ?_⟩) ?_
  rotate_left
  ·(intro w5 hw5; obtain ⟨hb1_, hb2_⟩ := hw5; have q1 := hb1_.cell; go_simp; (try with_reducible rfl))
  (try simp only [Act.put, ma, mb, mc, md, me, mf])
  refine wpAnyH_done (by kernel_rfl) ?_ _
  obtain ⟨bq2, bg2⟩ := G1
  clear G0 hHeld bq1 bg1
  go_wp2_with fail
  go_ret
  refine ⟨?_, hB2⟩
  rw [HR.out, if_neg (by simp)]
  rfl
 ·have G0 : Blk w1.drew w.heap.size 43 #[.int .i64 q.kind, .string q.job.name, .int .i64 q.job.prio, .int .i64 q.job.need, .int .i64 q.job.tries, .string q.job.tag, .string q.node.name, .int .i64 q.node.room, .string q.node.zone, .string q.lease.job, .string q.lease.node, .int .i64 q.lease.till, .string q.name, .int .i64 q.n] ∧ Blk w1.drew g 149 #[.int .i64 q.n] := ⟨bq1.drew, bg1.drew⟩
  refine wp_region_held_drew (S := fun W => Blk W w.heap.size 43 #[.int .i64 q.kind, .string q.job.name, .int .i64 q.job.prio, .int .i64 q.job.need, .int .i64 q.job.tries, .string q.job.tag, .string q.node.name, .int .i64 q.node.room, .string q.node.zone, .string q.lease.job, .string q.lease.node, .int .i64 q.lease.till, .string q.name, .int .i64 q.n] ∧ Blk W g 149 #[.int .i64 q.n]) (by kernel_rfl) G0 (fun hHeld => ?_)
  refine tk 0 (v := ?_) rfl (Or.inl ⟨by rfl, ?_⟩) ?_
  rotate_left
  ·(intro w5 hw5; obtain ⟨hb1_, hb2_⟩ := hw5; have q1 := hb1_.cell; go_simp; (try with_reducible rfl))
  (try simp only [Act.put, ma, mb, mc, md, me, mf])
  refine tk 1 (v := ?_) rfl (Or.inl ⟨by rfl, ?_⟩) ?_
  rotate_left
  ·(intro w5 hw5; obtain ⟨hb1_, hb2_⟩ := hw5; have q1 := hb1_.cell; go_simp; (try with_reducible rfl))
  (try simp only [Act.put, ma, mb, mc, md, me, mf])
  refine tk 2 (v := ?_) rfl (Or.inl ⟨by rfl, ?_⟩) ?_
  rotate_left
  ·(intro w5 hw5; obtain ⟨hb1_, hb2_⟩ := hw5; have q1 := hb1_.cell; go_simp; (try with_reducible rfl))
  (try simp only [Act.put, ma, mb, mc, md, me, mf])
  refine tk 4 (v := ?_) rfl (Or.inl ⟨by rfl, ?_⟩) ?_
  rotate_left
  ·(intro w5 hw5; obtain ⟨hb1_, hb2_⟩ := hw5; have q1 := hb1_.cell; go_simp; (try with_reducible rfl))
  (try simp only [Act.put, ma, mb, mc, md, me, mf])
  refine tr 3 rfl (fun K hK => ?_)
  go_simp
  refine (HW.out w1.drew g G0.2).mono ?_
  rintro e w2 ⟨rfl, hb2⟩
  have hB2 := hB1.trans (((Below.refl _ w1).drew.trans (hb2.mono (Nat.le_refl _))).mono hB1.size)
  have G1 : Blk w2 w.heap.size 43 #[.int .i64 q.kind, .string q.job.name, .int .i64 q.job.prio, .int .i64 q.job.need, .int .i64 q.job.tries, .string q.job.tag, .string q.node.name, .int .i64 q.node.room, .string q.node.zone, .string q.lease.job, .string q.lease.node, .int .i64 q.lease.till, .string q.name, .int .i64 q.n] ∧ Blk w2 g 149 #[.int .i64 q.n] := ⟨G0.1.below hb2 G0.1.lt, G0.2.below hb2 G0.2.lt⟩
  clear hb2 hB1
  refine hK.out _ _ ?_ (fun hHeld => ?_)
  ·exact G1
  clear hK K
  (try simp only [Act.put, ma, mb, mc, md, me, mf])
  refine tk 5 (v := ?_) rfl (Or.inl ⟨by rfl, ?_⟩) ?_
  rotate_left
  ·(intro w5 hw5; obtain ⟨hb1_, hb2_⟩ := hw5; have q1 := hb1_.cell; go_simp; (try with_reducible rfl))
  (try simp only [Act.put, ma, mb, mc, md, me, mf])
  refine tk 6 (v := ?_) rfl (Or.inl ⟨by rfl, ?_⟩) ?_
  rotate_left
  ·(intro w5 hw5; obtain ⟨hb1_, hb2_⟩ := hw5; have q1 := hb1_.cell; go_simp; (try with_reducible rfl))
  (try simp only [Act.put, ma, mb, mc, md, me, mf])
  refine wpAnyH_done (by kernel_rfl) ?_ _
  obtain ⟨bq2, bg2⟩ := G1
  clear G0 hHeld bq1 bg1
  have HC2 := Lib.hid (HC.out w2 g bg2 hB2)
  go_wp2_with fail
  refine HC2.out.mono ?_
  rintro e w3 ⟨rfl, hb3⟩
  have hB3 := hB2.trans (hb3.mono hB2.size)
  go_wp2_with fail
  go_ret
  refine ⟨?_, hB3⟩
  rw [HR.out, if_pos (by trivial)]
  rfl
theorem reqCheckZ (q : ReqD) (w : World) (HS : ReqSz q) (hT : Tabs w) (hkind : q.kind = 8 ∨ q.kind = 9) :
  Calls Tryz.prog 23 #[.agg #[.int .i64 q.kind, .string q.job.name, .int .i64 q.job.prio, .int .i64 q.job.need, .int .i64 q.job.tries, .string q.job.tag, .string q.node.name, .int .i64 q.node.room, .string q.node.zone, .string q.lease.job, .string q.lease.node, .int .i64 q.lease.till, .string q.name, .int .i64 q.n]] w fun e w' => e = .returned (.int .i64 ((reqE q : Nat) : Int)) ∧ Below w.heap.size w w' := by
 have hw : wholeR q = ⟨q.kind, noJ, noN, noL, ByteArray.empty, 0⟩ := by unfold wholeR; rcases hkind with h | h <;> simp [h]
 have hp : partE q = 0 := by unfold partE; rcases hkind with h | h <;> simp [h]
 have hR : reqE q = if decide ((⟨q.kind, noJ, noN, noL, ByteArray.empty, 0⟩ : ReqD) = q) = true then 0 else 4 := by
  unfold reqE
  rw [if_pos (by omega), hw, hp]
  by_cases h : (⟨q.kind, noJ, noN, noL, ByteArray.empty, 0⟩ : ReqD) = q <;> simp [h]
 have HP := Lib.hid (fun (W : World) => show Calls Tryz.prog 38 #[.agg #[.int .i64 q.kind, .string q.job.name, .int .i64 q.job.prio, .int .i64 q.job.need, .int .i64 q.job.tries, .string q.job.tag, .string q.node.name, .int .i64 q.node.room, .string q.node.zone, .string q.lease.job, .string q.lease.node, .int .i64 q.lease.till, .string q.name, .int .i64 q.n]] W (fun e w' => e = .returned (.iface 152 (.agg #[])) ∧ Below W.heap.size W w') from by rcases hkind with h | h; exact partOfZ8 q h W; exact partOfZ9 q h W)
 have HW := Lib.hid (fun (W : World) => wholeZ q.kind W)
 have HC := Lib.hid (fun (W : World) => checkZ W)
 have hE := eqInQ ⟨q.kind, noJ, noN, noL, ByteArray.empty, 0⟩ q
 have hE2 := eqGuardQ
 generalize hbb : decide ((⟨q.kind, noJ, noN, noL, ByteArray.empty, 0⟩ : ReqD) = q) = b at *
 dsimp only [noJ, noN, noL] at hE
 have HR := Lib.hid hR
 clear hkind hw hp hR hT HS hbb
 have hb0 : Below w.heap.size w (w.alloc (.cells #[.int .i64 q.kind, .string q.job.name, .int .i64 q.job.prio, .int .i64 q.job.need, .int .i64 q.job.tries, .string q.job.tag, .string q.node.name, .int .i64 q.node.room, .string q.node.zone, .string q.lease.job, .string q.lease.node, .int .i64 q.lease.till, .string q.name, .int .i64 q.n] 43)) := (Below.refl _ _).alloc (Nat.le_refl _) _
 have bq0 := Blk.new w 43 #[.int .i64 q.kind, .string q.job.name, .int .i64 q.job.prio, .int .i64 q.job.need, .int .i64 q.job.tries, .string q.job.tag, .string q.node.name, .int .i64 q.node.room, .string q.node.zone, .string q.lease.job, .string q.lease.node, .int .i64 q.lease.till, .string q.name, .int .i64 q.n]
 go_enter Tryz.func23, Tryz.ntmps23
 go_upto_region 1 with fail
 generalize w.alloc _ = w0 at *
 go_wp2_with (first | (refine wpList_load_blk rfl _ _ rfl w.heap.size rfl _ _ bq0 _ Tryz.underlying43 rfl request_size ?_))
 refine (HP.out w0).mono ?_
 rintro e w1 ⟨rfl, hb1⟩
 have hB1 := hb0.trans (hb1.mono hb0.size)
 have bq1 := bq0.below hb1 bq0.lt
 clear hb1 hb0 bq0
 go_upto_region 4 with fail
 cases b
 ·have G0 : Blk w1.drew w.heap.size 43 #[.int .i64 q.kind, .string q.job.name, .int .i64 q.job.prio, .int .i64 q.job.need, .int .i64 q.job.tries, .string q.job.tag, .string q.node.name, .int .i64 q.node.room, .string q.node.zone, .string q.lease.job, .string q.lease.node, .int .i64 q.lease.till, .string q.name, .int .i64 q.n] ∧ True := ⟨bq1.drew, trivial⟩
  refine wp_region_held_drew (S := fun W => Blk W w.heap.size 43 #[.int .i64 q.kind, .string q.job.name, .int .i64 q.job.prio, .int .i64 q.job.need, .int .i64 q.job.tries, .string q.job.tag, .string q.node.name, .int .i64 q.node.room, .string q.node.zone, .string q.lease.job, .string q.lease.node, .int .i64 q.lease.till, .string q.name, .int .i64 q.n] ∧ True) (by kernel_rfl) G0 (fun hHeld => ?_)
  refine tk 0 (v := ?_) rfl (Or.inl ⟨by rfl, ?_⟩) ?_
  rotate_left
  ·(intro w5 hw5; obtain ⟨hb1_, hb2_⟩ := hw5; have q1 := hb1_.cell; go_simp; (try with_reducible rfl))
  (try simp only [Act.put, ma, mb, mc, md, me, mf])
  refine tk 1 (v := ?_) rfl (Or.inl ⟨by rfl, ?_⟩) ?_
  rotate_left
  ·(intro w5 hw5; obtain ⟨hb1_, hb2_⟩ := hw5; have q1 := hb1_.cell; go_simp; (try with_reducible rfl))
  (try simp only [Act.put, ma, mb, mc, md, me, mf])
  refine tk 2 (v := ?_) rfl (Or.inl ⟨by rfl, ?_⟩) ?_
  rotate_left
  ·(intro w5 hw5; obtain ⟨hb1_, hb2_⟩ := hw5; have q1 := hb1_.cell; go_simp; (try with_reducible rfl))
  (try simp only [Act.put, ma, mb, mc, md, me, mf])
  refine tk 4 (v := ?_) rfl (Or.inl ⟨by rfl, ?_⟩) ?_
  rotate_left
  ·(intro w5 hw5; obtain ⟨hb1_, hb2_⟩ := hw5; have q1 := hb1_.cell; go_simp; (try with_reducible rfl))
  (try simp only [Act.put, ma, mb, mc, md, me, mf])
  refine tr 3 rfl (fun K hK => ?_)
  go_simp
  refine (HW.out w1.drew).mono ?_
  rintro e w2 ⟨rfl, hb2⟩
  have hB2 := hB1.trans (((Below.refl _ w1).drew.trans (hb2.mono (Nat.le_refl _))).mono hB1.size)
  have G1 : Blk w2 w.heap.size 43 #[.int .i64 q.kind, .string q.job.name, .int .i64 q.job.prio, .int .i64 q.job.need, .int .i64 q.job.tries, .string q.job.tag, .string q.node.name, .int .i64 q.node.room, .string q.node.zone, .string q.lease.job, .string q.lease.node, .int .i64 q.lease.till, .string q.name, .int .i64 q.n] ∧ True := ⟨G0.1.below hb2 G0.1.lt, trivial⟩
  clear hb2 hB1
  refine hK.out _ _ ?_ (fun hHeld => ?_)
  ·exact G1
  clear hK K
  (try simp only [Act.put, ma, mb, mc, md, me, mf])
  refine tk 5 (v := ?_) rfl (Or.inl ⟨by rfl, ?_⟩) ?_
  rotate_left
  ·(intro w5 hw5; obtain ⟨hb1_, hb2_⟩ := hw5; have q1 := hb1_.cell; go_simp; (try with_reducible rfl))
  (try simp only [Act.put, ma, mb, mc, md, me, mf])
  refine tk 6 (v := ?_) rfl (Or.inl ⟨by rfl, ?_⟩) ?_
  rotate_left
  ·(intro w5 hw5; obtain ⟨hb1_, hb2_⟩ := hw5; have q1 := hb1_.cell; go_simp; (try with_reducible rfl))
  (try simp only [Act.put, ma, mb, mc, md, me, mf])
  refine wpAnyH_done (by kernel_rfl) ?_ _
  obtain ⟨bq2, bg2⟩ := G1
  clear G0 hHeld bq1
  go_wp2_with fail
  go_ret
  refine ⟨?_, hB2⟩
  rw [HR.out, if_neg (by simp)]
  rfl
 ·have G0 : Blk w1.drew w.heap.size 43 #[.int .i64 q.kind, .string q.job.name, .int .i64 q.job.prio, .int .i64 q.job.need, .int .i64 q.job.tries, .string q.job.tag, .string q.node.name, .int .i64 q.node.room, .string q.node.zone, .string q.lease.job, .string q.lease.node, .int .i64 q.lease.till, .string q.name, .int .i64 q.n] ∧ True := ⟨bq1.drew, trivial⟩
  refine wp_region_held_drew (S := fun W => Blk W w.heap.size 43 #[.int .i64 q.kind, .string q.job.name, .int .i64 q.job.prio, .int .i64 q.job.need, .int .i64 q.job.tries, .string q.job.tag, .string q.node.name, .int .i64 q.node.room, .string q.node.zone, .string q.lease.job, .string q.lease.node, .int .i64 q.lease.till, .string q.name, .int .i64 q.n] ∧ True) (by kernel_rfl) G0 (fun hHeld => ?_)
  refine tk 0 (v := ?_) rfl (Or.inl ⟨by rfl, ?_⟩) ?_
  rotate_left
  ·(intro w5 hw5; obtain ⟨hb1_, hb2_⟩ := hw5; have q1 := hb1_.cell; go_simp; (try with_reducible rfl))
  (try simp only [Act.put, ma, mb, mc, md, me, mf])
  refine tk 1 (v := ?_) rfl (Or.inl ⟨by rfl, ?_⟩) ?_
  rotate_left
  ·(intro w5 hw5; obtain ⟨hb1_, hb2_⟩ := hw5; have q1 := hb1_.cell; go_simp; (try with_reducible rfl))
  (try simp only [Act.put, ma, mb, mc, md, me, mf])
  refine tk 2 (v := ?_) rfl (Or.inl ⟨by rfl, ?_⟩) ?_
  rotate_left
  ·(intro w5 hw5; obtain ⟨hb1_, hb2_⟩ := hw5; have q1 := hb1_.cell; go_simp; (try with_reducible rfl))
  (try simp only [Act.put, ma, mb, mc, md, me, mf])
  refine tk 4 (v := ?_) rfl (Or.inl ⟨by rfl, ?_⟩) ?_
  rotate_left
  ·(intro w5 hw5; obtain ⟨hb1_, hb2_⟩ := hw5; have q1 := hb1_.cell; go_simp; (try with_reducible rfl))
  (try simp only [Act.put, ma, mb, mc, md, me, mf])
  refine tr 3 rfl (fun K hK => ?_)
  go_simp
  refine (HW.out w1.drew).mono ?_
  rintro e w2 ⟨rfl, hb2⟩
  have hB2 := hB1.trans (((Below.refl _ w1).drew.trans (hb2.mono (Nat.le_refl _))).mono hB1.size)
  have G1 : Blk w2 w.heap.size 43 #[.int .i64 q.kind, .string q.job.name, .int .i64 q.job.prio, .int .i64 q.job.need, .int .i64 q.job.tries, .string q.job.tag, .string q.node.name, .int .i64 q.node.room, .string q.node.zone, .string q.lease.job, .string q.lease.node, .int .i64 q.lease.till, .string q.name, .int .i64 q.n] ∧ True := ⟨G0.1.below hb2 G0.1.lt, trivial⟩
  clear hb2 hB1
  refine hK.out _ _ ?_ (fun hHeld => ?_)
  ·exact G1
  clear hK K
  (try simp only [Act.put, ma, mb, mc, md, me, mf])
  refine tk 5 (v := ?_) rfl (Or.inl ⟨by rfl, ?_⟩) ?_
  rotate_left
  ·(intro w5 hw5; obtain ⟨hb1_, hb2_⟩ := hw5; have q1 := hb1_.cell; go_simp; (try with_reducible rfl))
  (try simp only [Act.put, ma, mb, mc, md, me, mf])
  refine tk 6 (v := ?_) rfl (Or.inl ⟨by rfl, ?_⟩) ?_
  rotate_left
  ·(intro w5 hw5; obtain ⟨hb1_, hb2_⟩ := hw5; have q1 := hb1_.cell; go_simp; (try with_reducible rfl))
  (try simp only [Act.put, ma, mb, mc, md, me, mf])
  refine wpAnyH_done (by kernel_rfl) ?_ _
  obtain ⟨bq2, bg2⟩ := G1
  clear G0 hHeld bq1
  have HC2 := Lib.hid (HC.out w2)
  go_wp2_with fail
  refine HC2.out.mono ?_
  rintro e w3 ⟨rfl, hb3⟩
  have hB3 := hB2.trans (hb3.mono hB2.size)
  go_wp2_with fail
  go_ret
  refine ⟨?_, hB3⟩
  rw [HR.out, if_pos (by trivial)]
  rfl
theorem reqCheck_not (q : ReqD) (w : World) (HS : ReqSz q) (hT : Tabs w) (hkind : ¬(1 ≤ q.kind ∧ q.kind ≤ 9)) :
  Calls Tryz.prog 23 #[.agg #[.int .i64 q.kind, .string q.job.name, .int .i64 q.job.prio, .int .i64 q.job.need, .int .i64 q.job.tries, .string q.job.tag, .string q.node.name, .int .i64 q.node.room, .string q.node.zone, .string q.lease.job, .string q.lease.node, .int .i64 q.lease.till, .string q.name, .int .i64 q.n]] w fun e w' => e = .returned (.int .i64 ((reqE q : Nat) : Int)) ∧ Below w.heap.size w w' := by
 have hR : reqE q = 1 := by unfold reqE; rw [if_neg hkind]
 have HR := Lib.hid hR
 have HP := Lib.hid (fun (W : World) => partOf_not q hkind W)
 clear hR hkind hT HS
 have hb0 : Below w.heap.size w (w.alloc (.cells #[.int .i64 q.kind, .string q.job.name, .int .i64 q.job.prio, .int .i64 q.job.need, .int .i64 q.job.tries, .string q.job.tag, .string q.node.name, .int .i64 q.node.room, .string q.node.zone, .string q.lease.job, .string q.lease.node, .int .i64 q.lease.till, .string q.name, .int .i64 q.n] 43)) := (Below.refl _ _).alloc (Nat.le_refl _) _
 have bq0 := Blk.new w 43 #[.int .i64 q.kind, .string q.job.name, .int .i64 q.job.prio, .int .i64 q.job.need, .int .i64 q.job.tries, .string q.job.tag, .string q.node.name, .int .i64 q.node.room, .string q.node.zone, .string q.lease.job, .string q.lease.node, .int .i64 q.lease.till, .string q.name, .int .i64 q.n]
 go_enter Tryz.func23, Tryz.ntmps23
 go_upto_region 1 with fail
 generalize w.alloc _ = w0 at *
 go_wp2_with (first | (refine wpList_load_blk rfl _ _ rfl w.heap.size rfl _ _ bq0 _ Tryz.underlying43 rfl request_size ?_))
 refine (HP.out w0).mono ?_
 rintro e w1 ⟨rfl, hb1⟩
 have hB1 := hb0.trans (hb1.mono hb0.size)
 go_wp2_with fail
 go_ret
 refine ⟨?_, hB1⟩
 rw [HR.out]
 rfl
theorem reqCheck_any (q : ReqD) (w : World) (HS : ReqSz q) (hT : Tabs w) :
  Calls Tryz.prog 23 #[.agg #[.int .i64 q.kind, .string q.job.name, .int .i64 q.job.prio, .int .i64 q.job.need, .int .i64 q.job.tries, .string q.job.tag, .string q.node.name, .int .i64 q.node.room, .string q.node.zone, .string q.lease.job, .string q.lease.node, .int .i64 q.lease.till, .string q.name, .int .i64 q.n]] w fun e w' => e = .returned (.int .i64 ((reqE q : Nat) : Int)) ∧ Below w.heap.size w w' := by
 by_cases h : 1 ≤ q.kind ∧ q.kind ≤ 9
 rotate_left
 ·exact reqCheck_not q w HS hT h
 by_cases h1 : q.kind = 1
 ·exact reqCheckJ q w HS hT h1
 by_cases h2 : q.kind = 2
 ·exact reqCheckN q w HS hT h2
 by_cases h5 : q.kind = 5
 ·exact reqCheckL q w HS hT h5
 by_cases h7 : q.kind = 7
 ·exact reqCheckC q w HS hT h7
 by_cases h8 : q.kind = 8 ∨ q.kind = 9
 ·exact reqCheckZ q w HS hT h8
 exact reqCheckS q w HS hT (by omega)
end Go.Proofs.YtaioadbenigdpaaGreatDoor
