/-
  Several texts in one: SameW.
-/
import Derived.Test.YtaioadbenigdpaaGreatDoorPkEq
import Derived.Test.YtaioadbenigdpaaGreatDoorPkStateA
set_option linter.unusedVariables false
set_option linter.unusedSimpArgs false
set_option maxHeartbeats 16000000
set_option maxRecDepth 100000
namespace Go.Proofs.YtaioadbenigdpaaGreatDoor
open Go.RowKit
theorem same_any (a b : St) (p1 p2 p3 q1 q2 q3 : Option Addr) (c1 c2 c3 d1 d2 d3 : Nat) (w : World) (ha : StM w w.heap.size p1 p2 p3 a) (hb : StM w w.heap.size q1 q2 q3 b) (hza : StSz a) (hzb : StSz b) :
  Calls Tryz.prog 17 #[.agg #[.int .i64 a.rev, .slice p1 a.jobs.length c1, .slice p2 a.nodes.length c2, .slice p3 a.leases.length c3], .agg #[.int .i64 b.rev, .slice q1 b.jobs.length d1, .slice q2 b.nodes.length d2, .slice q3 b.leases.length d3]] w fun e w' => e = .returned (.bool (decide (a = b))) ∧ Below w.heap.size w w' := by
 have hJ := fun (W : World) (hW : Below w.heap.size w W) => eqJ_any p1 q1 c1 d1 a.jobs b.jobs W ((ha.j.below hW).more hW.size) ((hb.j.below hW).more hW.size) hza.lj hzb.lj
 have hN := fun (W : World) (hW : Below w.heap.size w W) => eqN_any p2 q2 c2 d2 a.nodes b.nodes W ((ha.n.below hW).more hW.size) ((hb.n.below hW).more hW.size) hza.ln hzb.ln
 have hL := fun (W : World) (hW : Below w.heap.size w W) => eqL_any p3 q3 c3 d3 a.leases b.leases W ((ha.l.below hW).more hW.size) ((hb.l.below hW).more hW.size) hza.ll hzb.ll
 have bA := Blk.new w 26 #[.int .i64 a.rev, .slice p1 a.jobs.length c1, .slice p2 a.nodes.length c2, .slice p3 a.leases.length c3]
 have hs1 : (w.alloc (.cells #[.int .i64 a.rev, .slice p1 a.jobs.length c1, .slice p2 a.nodes.length c2, .slice p3 a.leases.length c3] 26)).heap.size = w.heap.size + 1 := by simp
 have bB := Blk.new (w.alloc (.cells #[.int .i64 a.rev, .slice p1 a.jobs.length c1, .slice p2 a.nodes.length c2, .slice p3 a.leases.length c3] 26)) 26 #[.int .i64 b.rev, .slice q1 b.jobs.length d1, .slice q2 b.nodes.length d2, .slice q3 b.leases.length d3]
 have bA := bA.alloc (.cells #[.int .i64 b.rev, .slice q1 b.jobs.length d1, .slice q2 b.nodes.length d2, .slice q3 b.leases.length d3] 26)
 have hB0 : Below w.heap.size w ((w.alloc (.cells #[.int .i64 a.rev, .slice p1 a.jobs.length c1, .slice p2 a.nodes.length c2, .slice p3 a.leases.length c3] 26)).alloc (.cells #[.int .i64 b.rev, .slice q1 b.jobs.length d1, .slice q2 b.nodes.length d2, .slice q3 b.leases.length d3] 26)) := ((Below.refl _ _).alloc (Nat.le_refl _) _).alloc (by omega) _
 rw [hs1] at bB
 have HV := Lib.hid (show decide (a = b) = (decide (a.rev = b.rev) && decide (a.jobs = b.jobs) && decide (a.nodes = b.nodes) && decide (a.leases = b.leases)) from by
  cases a; cases b; simp only [St.mk.injEq, Bool.decide_and, Bool.and_assoc])
 have HJ := Lib.hid hJ
 have HN := Lib.hid hN
 have HL := Lib.hid hL
 have HR := Lib.hid (show ((a.rev : Int) == b.rev) = decide (a.rev = b.rev) from by rw [Bool.eq_iff_iff]; simp)
 clear hJ hN hL ha hb hza hzb
 generalize hr : decide (a.rev = b.rev) = xr at *
 generalize hj : decide (a.jobs = b.jobs) = xj at *
 generalize hn : decide (a.nodes = b.nodes) = xn at *
 generalize hl : decide (a.leases = b.leases) = xl at *
 clear hr hj hn hl
 cases xr
 ·have hr := HR.out
  go_enter Tryz.func17, Tryz.ntmps17
  go_wp2_with fail
  go_ret
  exact ⟨by rw [HV.out]; rfl, hB0⟩
 ·have hr := HR.out
  cases xj
  ·go_enter Tryz.func17, Tryz.ntmps17
   go_wp2_with fail
   refine (HJ.out _ hB0).mono ?_
   rintro e w1 ⟨rfl, hb1⟩
   have hB1 := hB0.trans (hb1.mono hB0.size)
   go_wp2_with fail
   go_ret
   exact ⟨by rw [HV.out]; rfl, hB1⟩
  ·cases xn
   ·go_enter Tryz.func17, Tryz.ntmps17
    go_wp2_with fail
    generalize (w.alloc _).alloc _ = W at *
    refine (HJ.out _ hB0).mono ?_
    rintro e w1 ⟨rfl, hb1⟩
    have hB1 := hB0.trans (hb1.mono hB0.size)
    have bA1 := bA.below hb1 bA.lt
    have bB1 := bB.below hb1 bB.lt
    have e1 : w1.cell? ⟨w.heap.size, 2, none⟩ = some (.slice p2 a.nodes.length c2) := bA1.cell 2
    have e2 : w1.cell? ⟨w.heap.size + 1, 2, none⟩ = some (.slice q2 b.nodes.length d2) := bB1.cell 2
    go_wp2_with fail
    refine (HN.out _ hB1).mono ?_
    rintro e w2 ⟨rfl, hb2⟩
    have hB2 := hB1.trans (hb2.mono hB1.size)
    go_wp2_with fail
    go_ret
    exact ⟨by rw [HV.out]; rfl, hB2⟩
   ·go_enter Tryz.func17, Tryz.ntmps17
    go_wp2_with fail
    generalize (w.alloc _).alloc _ = W at *
    refine (HJ.out _ hB0).mono ?_
    rintro e w1 ⟨rfl, hb1⟩
    have hB1 := hB0.trans (hb1.mono hB0.size)
    have bA1 := bA.below hb1 bA.lt
    have bB1 := bB.below hb1 bB.lt
    have e1 : w1.cell? ⟨w.heap.size, 2, none⟩ = some (.slice p2 a.nodes.length c2) := bA1.cell 2
    have e2 : w1.cell? ⟨w.heap.size + 1, 2, none⟩ = some (.slice q2 b.nodes.length d2) := bB1.cell 2
    clear bA bB
    go_wp2_with fail
    refine (HN.out _ hB1).mono ?_
    rintro e w2 ⟨rfl, hb2⟩
    have hB2 := hB1.trans (hb2.mono hB1.size)
    have bA2 := bA1.below hb2 bA1.lt
    have bB2 := bB1.below hb2 bB1.lt
    clear e1 e2
    have e1 : w2.cell? ⟨w.heap.size, 3, none⟩ = some (.slice p3 a.leases.length c3) := bA2.cell 3
    have e2 : w2.cell? ⟨w.heap.size + 1, 3, none⟩ = some (.slice q3 b.leases.length d3) := bB2.cell 3
    go_wp2_with fail
    refine (HL.out _ hB2).mono ?_
    rintro e w3 ⟨rfl, hb3⟩
    have hB3 := hB2.trans (hb3.mono hB2.size)
    go_wp2_with fail
    go_ret
    exact ⟨by rw [HV.out]; rfl, hB3⟩
end Go.Proofs.YtaioadbenigdpaaGreatDoor
