/-
  Several texts in one: DeltaEq.
-/
import Derived.Test.YtaioadbenigdpaaGreatDoorPkEq
import Derived.Test.YtaioadbenigdpaaGreatDoorPkDelB
set_option linter.unusedVariables false
set_option linter.unusedSimpArgs false
set_option maxHeartbeats 16000000
set_option maxRecDepth 100000
namespace Go.Proofs.YtaioadbenigdpaaGreatDoor
open Go.RowKit
theorem deltaEq_any (a b : DeltaD) (p1 p2 p3 p4 p5 p6 q1 q2 q3 q4 q5 q6 : Option Addr) (c1 c2 c3 c4 c5 c6 d1 d2 d3 d4 d5 d6 : Nat) (w : World) (ha : DelM w w.heap.size p1 p2 p3 p4 p5 p6 a) (hb : DelM w w.heap.size q1 q2 q3 q4 q5 q6 b) (za : DelSz a) (zb : DelSz b) :
  Calls Tryz.prog 18 #[.agg #[.int .i64 a.frm, .int .i64 a.upto, .slice p1 a.jobs.length c1, .slice p2 a.nodes.length c2, .slice p3 a.leases.length c3, .slice p4 a.gj.length c4, .slice p5 a.gn.length c5, .slice p6 a.gl.length c6], .agg #[.int .i64 b.frm, .int .i64 b.upto, .slice q1 b.jobs.length d1, .slice q2 b.nodes.length d2, .slice q3 b.leases.length d3, .slice q4 b.gj.length d4, .slice q5 b.gn.length d5, .slice q6 b.gl.length d6]] w fun e w' => e = .returned (.bool (decide (a = b))) ∧ Below w.heap.size w w' := by
 have H2 := Lib.hid (fun (W : World) (hW : Below w.heap.size w W) => eqJ_any p1 q1 c1 d1 a.jobs b.jobs W ((ha.j.below hW).more hW.size) ((hb.j.below hW).more hW.size) (by have := za.j; omega) (by have := zb.j; omega))
 have H3 := Lib.hid (fun (W : World) (hW : Below w.heap.size w W) => eqN_any p2 q2 c2 d2 a.nodes b.nodes W ((ha.n.below hW).more hW.size) ((hb.n.below hW).more hW.size) (by have := za.n; omega) (by have := zb.n; omega))
 have H4 := Lib.hid (fun (W : World) (hW : Below w.heap.size w W) => eqL_any p3 q3 c3 d3 a.leases b.leases W ((ha.l.below hW).more hW.size) ((hb.l.below hW).more hW.size) (by have := za.l; omega) (by have := zb.l; omega))
 have H5 := Lib.hid (fun (W : World) (hW : Below w.heap.size w W) => eqS_any p4 q4 c4 d4 a.gj b.gj W ((ha.gj.below hW).more hW.size) ((hb.gj.below hW).more hW.size) (by have := za.gj; omega) (by have := zb.gj; omega))
 have H6 := Lib.hid (fun (W : World) (hW : Below w.heap.size w W) => eqS_any p5 q5 c5 d5 a.gn b.gn W ((ha.gn.below hW).more hW.size) ((hb.gn.below hW).more hW.size) (by have := za.gn; omega) (by have := zb.gn; omega))
 have H7 := Lib.hid (fun (W : World) (hW : Below w.heap.size w W) => eqS_any p6 q6 c6 d6 a.gl b.gl W ((ha.gl.below hW).more hW.size) ((hb.gl.below hW).more hW.size) (by have := za.gl; omega) (by have := zb.gl; omega))
 have bA := (Blk.new w 48 #[.int .i64 a.frm, .int .i64 a.upto, .slice p1 a.jobs.length c1, .slice p2 a.nodes.length c2, .slice p3 a.leases.length c3, .slice p4 a.gj.length c4, .slice p5 a.gn.length c5, .slice p6 a.gl.length c6]).alloc (.cells #[.int .i64 b.frm, .int .i64 b.upto, .slice q1 b.jobs.length d1, .slice q2 b.nodes.length d2, .slice q3 b.leases.length d3, .slice q4 b.gj.length d4, .slice q5 b.gn.length d5, .slice q6 b.gl.length d6] 48)
 have bB : Blk ((w.alloc (.cells #[.int .i64 a.frm, .int .i64 a.upto, .slice p1 a.jobs.length c1, .slice p2 a.nodes.length c2, .slice p3 a.leases.length c3, .slice p4 a.gj.length c4, .slice p5 a.gn.length c5, .slice p6 a.gl.length c6] 48)).alloc (.cells #[.int .i64 b.frm, .int .i64 b.upto, .slice q1 b.jobs.length d1, .slice q2 b.nodes.length d2, .slice q3 b.leases.length d3, .slice q4 b.gj.length d4, .slice q5 b.gn.length d5, .slice q6 b.gl.length d6] 48)) (w.heap.size + 1) 48 #[.int .i64 b.frm, .int .i64 b.upto, .slice q1 b.jobs.length d1, .slice q2 b.nodes.length d2, .slice q3 b.leases.length d3, .slice q4 b.gj.length d4, .slice q5 b.gn.length d5, .slice q6 b.gl.length d6] := by have := Blk.new (w.alloc (.cells #[.int .i64 a.frm, .int .i64 a.upto, .slice p1 a.jobs.length c1, .slice p2 a.nodes.length c2, .slice p3 a.leases.length c3, .slice p4 a.gj.length c4, .slice p5 a.gn.length c5, .slice p6 a.gl.length c6] 48)) 48 #[.int .i64 b.frm, .int .i64 b.upto, .slice q1 b.jobs.length d1, .slice q2 b.nodes.length d2, .slice q3 b.leases.length d3, .slice q4 b.gj.length d4, .slice q5 b.gn.length d5, .slice q6 b.gl.length d6]; simpa using this
 have hB0 : Below w.heap.size w ((w.alloc (.cells #[.int .i64 a.frm, .int .i64 a.upto, .slice p1 a.jobs.length c1, .slice p2 a.nodes.length c2, .slice p3 a.leases.length c3, .slice p4 a.gj.length c4, .slice p5 a.gn.length c5, .slice p6 a.gl.length c6] 48)).alloc (.cells #[.int .i64 b.frm, .int .i64 b.upto, .slice q1 b.jobs.length d1, .slice q2 b.nodes.length d2, .slice q3 b.leases.length d3, .slice q4 b.gj.length d4, .slice q5 b.gn.length d5, .slice q6 b.gl.length d6] 48)) := ((Below.refl _ _).alloc (Nat.le_refl _) _).alloc (by simp) _
 have HV := Lib.hid (show decide (a = b) = (decide (a.frm = b.frm) && decide (a.upto = b.upto) && decide (a.jobs = b.jobs) && decide (a.nodes = b.nodes) && decide (a.leases = b.leases) && decide (a.gj = b.gj) && decide (a.gn = b.gn) && decide (a.gl = b.gl)) from by
  cases a; cases b; simp only [DeltaD.mk.injEq, Bool.decide_and, Bool.and_assoc])
 have HR0 := Lib.hid (show ((a.frm : Int) == b.frm) = decide (a.frm = b.frm) from by rw [Bool.eq_iff_iff]; simp)
 have HR1 := Lib.hid (show ((a.upto : Int) == b.upto) = decide (a.upto = b.upto) from by rw [Bool.eq_iff_iff]; simp)
 clear ha hb za zb
 generalize hx0 : decide (a.frm = b.frm) = x0 at *
 generalize hx1 : decide (a.upto = b.upto) = x1 at *
 generalize hx2 : decide (a.jobs = b.jobs) = x2 at *
 generalize hx3 : decide (a.nodes = b.nodes) = x3 at *
 generalize hx4 : decide (a.leases = b.leases) = x4 at *
 generalize hx5 : decide (a.gj = b.gj) = x5 at *
 generalize hx6 : decide (a.gn = b.gn) = x6 at *
 generalize hx7 : decide (a.gl = b.gl) = x7 at *
 clear hx0 hx1 hx2 hx3 hx4 hx5 hx6 hx7
 cases x0
 ·have r0 := HR0.out
  go_enter Tryz.func18, Tryz.ntmps18
  go_wp2_with fail
  go_ret
  exact ⟨by rw [HV.out]; rfl, hB0⟩
 ·cases x1
  ·have r0 := HR0.out
   have r1 := HR1.out
   go_enter Tryz.func18, Tryz.ntmps18
   go_wp2_with fail
   go_ret
   exact ⟨by rw [HV.out]; rfl, hB0⟩
  ·cases x2
   ·have r0 := HR0.out
    have r1 := HR1.out
    go_enter Tryz.func18, Tryz.ntmps18
    go_wp2_with fail
    generalize (w.alloc _).alloc _ = W at *
    refine (H2.out _ hB0).mono ?_
    rintro e w2 ⟨rfl, hb2⟩
    have hB2 := hB0.trans (hb2.mono hB0.size)
    go_wp2_with fail
    go_ret
    exact ⟨by rw [HV.out]; rfl, hB2⟩
   ·cases x3
    ·have r0 := HR0.out
     have r1 := HR1.out
     go_enter Tryz.func18, Tryz.ntmps18
     go_wp2_with fail
     generalize (w.alloc _).alloc _ = W at *
     refine (H2.out _ hB0).mono ?_
     rintro e w2 ⟨rfl, hb2⟩
     have hB2 := hB0.trans (hb2.mono hB0.size)
     have bA2 := bA.below hb2 bA.lt
     have bB2 := bB.below hb2 bB.lt
     clear bA bB
     have e1 : w2.cell? ⟨w.heap.size, 3, none⟩ = some (.slice p2 a.nodes.length c2) := bA2.cell 3
     have e2 : w2.cell? ⟨w.heap.size + 1, 3, none⟩ = some (.slice q2 b.nodes.length d2) := bB2.cell 3
     go_wp2_with fail
     refine (H3.out _ hB2).mono ?_
     rintro e w3 ⟨rfl, hb3⟩
     have hB3 := hB2.trans (hb3.mono hB2.size)
     clear e1 e2
     go_wp2_with fail
     go_ret
     exact ⟨by rw [HV.out]; rfl, hB3⟩
    ·cases x4
     ·have r0 := HR0.out
      have r1 := HR1.out
      go_enter Tryz.func18, Tryz.ntmps18
      go_wp2_with fail
      generalize (w.alloc _).alloc _ = W at *
      refine (H2.out _ hB0).mono ?_
      rintro e w2 ⟨rfl, hb2⟩
      have hB2 := hB0.trans (hb2.mono hB0.size)
      have bA2 := bA.below hb2 bA.lt
      have bB2 := bB.below hb2 bB.lt
      clear bA bB
      have e1 : w2.cell? ⟨w.heap.size, 3, none⟩ = some (.slice p2 a.nodes.length c2) := bA2.cell 3
      have e2 : w2.cell? ⟨w.heap.size + 1, 3, none⟩ = some (.slice q2 b.nodes.length d2) := bB2.cell 3
      go_wp2_with fail
      refine (H3.out _ hB2).mono ?_
      rintro e w3 ⟨rfl, hb3⟩
      have hB3 := hB2.trans (hb3.mono hB2.size)
      have bA3 := bA2.below hb3 bA2.lt
      have bB3 := bB2.below hb3 bB2.lt
      clear bA2 bB2 e1 e2
      have e1 : w3.cell? ⟨w.heap.size, 4, none⟩ = some (.slice p3 a.leases.length c3) := bA3.cell 4
      have e2 : w3.cell? ⟨w.heap.size + 1, 4, none⟩ = some (.slice q3 b.leases.length d3) := bB3.cell 4
      go_wp2_with fail
      refine (H4.out _ hB3).mono ?_
      rintro e w4 ⟨rfl, hb4⟩
      have hB4 := hB3.trans (hb4.mono hB3.size)
      clear e1 e2
      go_wp2_with fail
      go_ret
      exact ⟨by rw [HV.out]; rfl, hB4⟩
     ·cases x5
      ·have r0 := HR0.out
       have r1 := HR1.out
       go_enter Tryz.func18, Tryz.ntmps18
       go_wp2_with fail
       generalize (w.alloc _).alloc _ = W at *
       refine (H2.out _ hB0).mono ?_
       rintro e w2 ⟨rfl, hb2⟩
       have hB2 := hB0.trans (hb2.mono hB0.size)
       have bA2 := bA.below hb2 bA.lt
       have bB2 := bB.below hb2 bB.lt
       clear bA bB
       have e1 : w2.cell? ⟨w.heap.size, 3, none⟩ = some (.slice p2 a.nodes.length c2) := bA2.cell 3
       have e2 : w2.cell? ⟨w.heap.size + 1, 3, none⟩ = some (.slice q2 b.nodes.length d2) := bB2.cell 3
       go_wp2_with fail
       refine (H3.out _ hB2).mono ?_
       rintro e w3 ⟨rfl, hb3⟩
       have hB3 := hB2.trans (hb3.mono hB2.size)
       have bA3 := bA2.below hb3 bA2.lt
       have bB3 := bB2.below hb3 bB2.lt
       clear bA2 bB2 e1 e2
       have e1 : w3.cell? ⟨w.heap.size, 4, none⟩ = some (.slice p3 a.leases.length c3) := bA3.cell 4
       have e2 : w3.cell? ⟨w.heap.size + 1, 4, none⟩ = some (.slice q3 b.leases.length d3) := bB3.cell 4
       go_wp2_with fail
       refine (H4.out _ hB3).mono ?_
       rintro e w4 ⟨rfl, hb4⟩
       have hB4 := hB3.trans (hb4.mono hB3.size)
       have bA4 := bA3.below hb4 bA3.lt
       have bB4 := bB3.below hb4 bB3.lt
       clear bA3 bB3 e1 e2
       have e1 : w4.cell? ⟨w.heap.size, 5, none⟩ = some (.slice p4 a.gj.length c4) := bA4.cell 5
       have e2 : w4.cell? ⟨w.heap.size + 1, 5, none⟩ = some (.slice q4 b.gj.length d4) := bB4.cell 5
       go_wp2_with fail
       refine (H5.out _ hB4).mono ?_
       rintro e w5 ⟨rfl, hb5⟩
       have hB5 := hB4.trans (hb5.mono hB4.size)
       clear e1 e2
       go_wp2_with fail
       go_ret
       exact ⟨by rw [HV.out]; rfl, hB5⟩
      ·cases x6
       ·have r0 := HR0.out
        have r1 := HR1.out
        go_enter Tryz.func18, Tryz.ntmps18
        go_wp2_with fail
        generalize (w.alloc _).alloc _ = W at *
        refine (H2.out _ hB0).mono ?_
        rintro e w2 ⟨rfl, hb2⟩
        have hB2 := hB0.trans (hb2.mono hB0.size)
        have bA2 := bA.below hb2 bA.lt
        have bB2 := bB.below hb2 bB.lt
        clear bA bB
        have e1 : w2.cell? ⟨w.heap.size, 3, none⟩ = some (.slice p2 a.nodes.length c2) := bA2.cell 3
        have e2 : w2.cell? ⟨w.heap.size + 1, 3, none⟩ = some (.slice q2 b.nodes.length d2) := bB2.cell 3
        go_wp2_with fail
        refine (H3.out _ hB2).mono ?_
        rintro e w3 ⟨rfl, hb3⟩
        have hB3 := hB2.trans (hb3.mono hB2.size)
        have bA3 := bA2.below hb3 bA2.lt
        have bB3 := bB2.below hb3 bB2.lt
        clear bA2 bB2 e1 e2
        have e1 : w3.cell? ⟨w.heap.size, 4, none⟩ = some (.slice p3 a.leases.length c3) := bA3.cell 4
        have e2 : w3.cell? ⟨w.heap.size + 1, 4, none⟩ = some (.slice q3 b.leases.length d3) := bB3.cell 4
        go_wp2_with fail
        refine (H4.out _ hB3).mono ?_
        rintro e w4 ⟨rfl, hb4⟩
        have hB4 := hB3.trans (hb4.mono hB3.size)
        have bA4 := bA3.below hb4 bA3.lt
        have bB4 := bB3.below hb4 bB3.lt
        clear bA3 bB3 e1 e2
        have e1 : w4.cell? ⟨w.heap.size, 5, none⟩ = some (.slice p4 a.gj.length c4) := bA4.cell 5
        have e2 : w4.cell? ⟨w.heap.size + 1, 5, none⟩ = some (.slice q4 b.gj.length d4) := bB4.cell 5
        go_wp2_with fail
        refine (H5.out _ hB4).mono ?_
        rintro e w5 ⟨rfl, hb5⟩
        have hB5 := hB4.trans (hb5.mono hB4.size)
        have bA5 := bA4.below hb5 bA4.lt
        have bB5 := bB4.below hb5 bB4.lt
        clear bA4 bB4 e1 e2
        have e1 : w5.cell? ⟨w.heap.size, 6, none⟩ = some (.slice p5 a.gn.length c5) := bA5.cell 6
        have e2 : w5.cell? ⟨w.heap.size + 1, 6, none⟩ = some (.slice q5 b.gn.length d5) := bB5.cell 6
        go_wp2_with fail
        refine (H6.out _ hB5).mono ?_
        rintro e w6 ⟨rfl, hb6⟩
        have hB6 := hB5.trans (hb6.mono hB5.size)
        clear e1 e2
        go_wp2_with fail
        go_ret
        exact ⟨by rw [HV.out]; rfl, hB6⟩
       ·cases x7
        ·have r0 := HR0.out
         have r1 := HR1.out
         go_enter Tryz.func18, Tryz.ntmps18
         go_wp2_with fail
         generalize (w.alloc _).alloc _ = W at *
         refine (H2.out _ hB0).mono ?_
         rintro e w2 ⟨rfl, hb2⟩
         have hB2 := hB0.trans (hb2.mono hB0.size)
         have bA2 := bA.below hb2 bA.lt
         have bB2 := bB.below hb2 bB.lt
         clear bA bB
         have e1 : w2.cell? ⟨w.heap.size, 3, none⟩ = some (.slice p2 a.nodes.length c2) := bA2.cell 3
         have e2 : w2.cell? ⟨w.heap.size + 1, 3, none⟩ = some (.slice q2 b.nodes.length d2) := bB2.cell 3
         go_wp2_with fail
         refine (H3.out _ hB2).mono ?_
         rintro e w3 ⟨rfl, hb3⟩
         have hB3 := hB2.trans (hb3.mono hB2.size)
         have bA3 := bA2.below hb3 bA2.lt
         have bB3 := bB2.below hb3 bB2.lt
         clear bA2 bB2 e1 e2
         have e1 : w3.cell? ⟨w.heap.size, 4, none⟩ = some (.slice p3 a.leases.length c3) := bA3.cell 4
         have e2 : w3.cell? ⟨w.heap.size + 1, 4, none⟩ = some (.slice q3 b.leases.length d3) := bB3.cell 4
         go_wp2_with fail
         refine (H4.out _ hB3).mono ?_
         rintro e w4 ⟨rfl, hb4⟩
         have hB4 := hB3.trans (hb4.mono hB3.size)
         have bA4 := bA3.below hb4 bA3.lt
         have bB4 := bB3.below hb4 bB3.lt
         clear bA3 bB3 e1 e2
         have e1 : w4.cell? ⟨w.heap.size, 5, none⟩ = some (.slice p4 a.gj.length c4) := bA4.cell 5
         have e2 : w4.cell? ⟨w.heap.size + 1, 5, none⟩ = some (.slice q4 b.gj.length d4) := bB4.cell 5
         go_wp2_with fail
         refine (H5.out _ hB4).mono ?_
         rintro e w5 ⟨rfl, hb5⟩
         have hB5 := hB4.trans (hb5.mono hB4.size)
         have bA5 := bA4.below hb5 bA4.lt
         have bB5 := bB4.below hb5 bB4.lt
         clear bA4 bB4 e1 e2
         have e1 : w5.cell? ⟨w.heap.size, 6, none⟩ = some (.slice p5 a.gn.length c5) := bA5.cell 6
         have e2 : w5.cell? ⟨w.heap.size + 1, 6, none⟩ = some (.slice q5 b.gn.length d5) := bB5.cell 6
         go_wp2_with fail
         refine (H6.out _ hB5).mono ?_
         rintro e w6 ⟨rfl, hb6⟩
         have hB6 := hB5.trans (hb6.mono hB5.size)
         have bA6 := bA5.below hb6 bA5.lt
         have bB6 := bB5.below hb6 bB5.lt
         clear bA5 bB5 e1 e2
         have e1 : w6.cell? ⟨w.heap.size, 7, none⟩ = some (.slice p6 a.gl.length c6) := bA6.cell 7
         have e2 : w6.cell? ⟨w.heap.size + 1, 7, none⟩ = some (.slice q6 b.gl.length d6) := bB6.cell 7
         go_wp2_with fail
         refine (H7.out _ hB6).mono ?_
         rintro e w7 ⟨rfl, hb7⟩
         have hB7 := hB6.trans (hb7.mono hB6.size)
         clear e1 e2
         go_wp2_with fail
         go_ret
         exact ⟨by rw [HV.out]; rfl, hB7⟩
        ·have r0 := HR0.out
         have r1 := HR1.out
         go_enter Tryz.func18, Tryz.ntmps18
         go_wp2_with fail
         generalize (w.alloc _).alloc _ = W at *
         refine (H2.out _ hB0).mono ?_
         rintro e w2 ⟨rfl, hb2⟩
         have hB2 := hB0.trans (hb2.mono hB0.size)
         have bA2 := bA.below hb2 bA.lt
         have bB2 := bB.below hb2 bB.lt
         clear bA bB
         have e1 : w2.cell? ⟨w.heap.size, 3, none⟩ = some (.slice p2 a.nodes.length c2) := bA2.cell 3
         have e2 : w2.cell? ⟨w.heap.size + 1, 3, none⟩ = some (.slice q2 b.nodes.length d2) := bB2.cell 3
         go_wp2_with fail
         refine (H3.out _ hB2).mono ?_
         rintro e w3 ⟨rfl, hb3⟩
         have hB3 := hB2.trans (hb3.mono hB2.size)
         have bA3 := bA2.below hb3 bA2.lt
         have bB3 := bB2.below hb3 bB2.lt
         clear bA2 bB2 e1 e2
         have e1 : w3.cell? ⟨w.heap.size, 4, none⟩ = some (.slice p3 a.leases.length c3) := bA3.cell 4
         have e2 : w3.cell? ⟨w.heap.size + 1, 4, none⟩ = some (.slice q3 b.leases.length d3) := bB3.cell 4
         go_wp2_with fail
         refine (H4.out _ hB3).mono ?_
         rintro e w4 ⟨rfl, hb4⟩
         have hB4 := hB3.trans (hb4.mono hB3.size)
         have bA4 := bA3.below hb4 bA3.lt
         have bB4 := bB3.below hb4 bB3.lt
         clear bA3 bB3 e1 e2
         have e1 : w4.cell? ⟨w.heap.size, 5, none⟩ = some (.slice p4 a.gj.length c4) := bA4.cell 5
         have e2 : w4.cell? ⟨w.heap.size + 1, 5, none⟩ = some (.slice q4 b.gj.length d4) := bB4.cell 5
         go_wp2_with fail
         refine (H5.out _ hB4).mono ?_
         rintro e w5 ⟨rfl, hb5⟩
         have hB5 := hB4.trans (hb5.mono hB4.size)
         have bA5 := bA4.below hb5 bA4.lt
         have bB5 := bB4.below hb5 bB4.lt
         clear bA4 bB4 e1 e2
         have e1 : w5.cell? ⟨w.heap.size, 6, none⟩ = some (.slice p5 a.gn.length c5) := bA5.cell 6
         have e2 : w5.cell? ⟨w.heap.size + 1, 6, none⟩ = some (.slice q5 b.gn.length d5) := bB5.cell 6
         go_wp2_with fail
         refine (H6.out _ hB5).mono ?_
         rintro e w6 ⟨rfl, hb6⟩
         have hB6 := hB5.trans (hb6.mono hB5.size)
         have bA6 := bA5.below hb6 bA5.lt
         have bB6 := bB5.below hb6 bB5.lt
         clear bA5 bB5 e1 e2
         have e1 : w6.cell? ⟨w.heap.size, 7, none⟩ = some (.slice p6 a.gl.length c6) := bA6.cell 7
         have e2 : w6.cell? ⟨w.heap.size + 1, 7, none⟩ = some (.slice q6 b.gl.length d6) := bB6.cell 7
         go_wp2_with fail
         refine (H7.out _ hB6).mono ?_
         rintro e w7 ⟨rfl, hb7⟩
         have hB7 := hB6.trans (hb7.mono hB6.size)
         clear e1 e2
         go_wp2_with fail
         go_ret
         exact ⟨by rw [HV.out]; rfl, hB7⟩
end Go.Proofs.YtaioadbenigdpaaGreatDoor
