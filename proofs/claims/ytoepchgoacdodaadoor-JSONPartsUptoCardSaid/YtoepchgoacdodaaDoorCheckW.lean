/-
  The contract of state.check.
-/
import Derived.Test.YtoepchgoacdodaaDoorCheckG
set_option linter.unusedVariables false
set_option linter.unusedSimpArgs false
namespace Go.Proofs.YtoepchgoacdodaaDoor
open Go.RowKit

set_option maxHeartbeats 8000000 in
set_option maxRecDepth 100000 in
theorem check_any (s : St) (p1 p2 p3 : Option Addr) (c1 c2 c3 : Nat) (w : World) (hm : StM w w.heap.size p1 p2 p3 s) (hz : StSz s) (hT : Tabs w) :
    Calls Tryd.prog 11 #[.agg #[.int .i64 s.rev, .slice p1 s.jobs.length c1, .slice p2 s.nodes.length c2, .slice p3 s.leases.length c3]] w fun e w' => CheckPost w s e w' := by
  have hb0 : Below w.heap.size w (w.alloc (.cells #[Value.int .i64 s.rev, Value.slice p1 s.jobs.length c1, Value.slice p2 s.nodes.length c2, Value.slice p3 s.leases.length c3] 32)) := (Below.refl _ _).alloc (Nat.le_refl _) _
  have bx0 := Blk.new w 32 #[Value.int .i64 s.rev, Value.slice p1 s.jobs.length c1, Value.slice p2 s.nodes.length c2, Value.slice p3 s.leases.length c3]
  have hwi := fun w => within_any s.rev 0 1099511627776 w
  have hm0 := hm
  have hz0 := hz
  have hmj := hm.j
  have hmn := hm.n
  have hml := hm.l
  obtain ⟨hzj, hzn, hzr, hlj, hln, hll⟩ := hz
  have HZJ := Lib.hid hzj
  have HZN := Lib.hid hzn
  have HZR := Lib.hid hzr
  clear hzj hzn hzr hm
  cases q0 : withinB s.rev 0 1099511627776
  · -- the revision
    have hE : checkE s = 1 := by unfold checkE; rw [if_pos q0]
    rw [q0] at hwi
    have HE := Lib.hid hE
    have HW := Lib.hid hwi
    clear hE hwi
    go_enter Tryd.func11, Tryd.ntmps11
    go_wp2_with fail
    refine (HW.out _).mono ?_
    rintro e w1 ⟨rfl, rfl⟩
    go_wp2_with fail
    go_ret2
    exact ⟨hb0, .inl ⟨by rw [HE.out]; decide, by rw [HE.out]; rfl⟩⟩
  · by_cases q1 : 40 < s.jobs.length ∨ 40 < s.leases.length ∨ 20 < s.nodes.length
    · -- the sizes
      have hE : checkE s = 2 := by unfold checkE; rw [if_neg (by rw [q0]; simp), if_pos q1]
      have hl1 : (s.jobs.length : Int) ≤ 4611686018427387904 := by omega
      by_cases q2 : 40 < s.jobs.length
      all_goals by_cases q3 : 40 < s.leases.length
      all_goals by_cases q4 : 20 < s.nodes.length
      all_goals first | (exfalso; omega) | skip
      all_goals
        rw [q0] at hwi
        have HE := Lib.hid hE
        have HW := Lib.hid hwi
        clear hE hwi
        go_enter Tryd.func11, Tryd.ntmps11
        go_wp2_with fail
        refine (HW.out _).mono ?_
        rintro e w1 ⟨rfl, rfl⟩
        go_wp2_with fail
        go_ret2
        exact ⟨hb0, .inl ⟨by rw [HE.out]; decide, by rw [HE.out]; rfl⟩⟩
    · obtain ⟨q2, q3, q4⟩ : s.jobs.length ≤ 40 ∧ s.leases.length ≤ 40 ∧ s.nodes.length ≤ 20 := by omega
      have hRJ := fun (W : World) (hW : Below w.heap.size w W) => rowsJ_any p1 c1 s.jobs W ((hmj.below hW).more hW.size) HZJ.out hlj (hT.below hW)
      have hRN := fun (W : World) (hW : Below w.heap.size w W) => rowsN_any p2 c2 s.nodes W ((hmn.below hW).more hW.size) HZN.out hln (hT.below hW)
      rw [q0] at hwi
      have HW := Lib.hid hwi
      clear hwi
      by_cases q5 : rowsE JobD.name jobE none s.jobs = 0
      · rw [q5] at hRJ
        by_cases q6 : rowsE NodeD.name nodeE none s.nodes = 0
        · rw [q6] at hRN
          exact check_good s p1 p2 p3 c1 c2 c3 w hm0 hz0 hT q0 q2 q3 q4 q5 q6
        · have hE : checkE s = rowsE NodeD.name nodeE none s.nodes := by unfold checkE; rw [if_neg (by rw [q0]; simp), if_neg q1, if_neg (by rw [q5]; simp), if_pos q6]
          have hne : ((rowsE NodeD.name nodeE none s.nodes : Int) != 0) = true := by rw [bne_iff_ne]; omega
          have HRJ := Lib.hid hRJ
          have HRN := Lib.hid hRN
          have HE := Lib.hid hE
          have HN6 := Lib.hid q6
          clear hE q5 q6 hRJ hRN q1
          go_enter Tryd.func11, Tryd.ntmps11
          go_wp2_with fail
          refine (HW.out _).mono ?_
          rintro e w1 ⟨rfl, rfl⟩
          go_wp2_with fail
          refine (HRJ.out _ hb0).mono ?_
          rintro e w2 ⟨rfl, hb2⟩
          have hB2 := hb0.trans (hb2.mono hb0.size)
          have bx2 := bx0.below hb2 bx0.lt
          have c2_1 : w2.cell? ⟨w.heap.size, 1, none⟩ = some (Value.slice p1 s.jobs.length c1) := bx2.cell 1
          have c2_2 : w2.cell? ⟨w.heap.size, 2, none⟩ = some (Value.slice p2 s.nodes.length c2) := bx2.cell 2
          have c2_3 : w2.cell? ⟨w.heap.size, 3, none⟩ = some (Value.slice p3 s.leases.length c3) := bx2.cell 3
          have hb2' := hb2
          clear hb2 bx2
          go_wp2_with fail
          refine (HRN.out _ hB2).mono ?_
          rintro e w3 ⟨rfl, hb3⟩
          have hB3 := hB2.trans (hb3.mono hB2.size)
          have bx3 := (bx0.below hb2' bx0.lt).below hb3 (Nat.lt_of_lt_of_le bx0.lt hb2'.size)
          have c3_1 : w3.cell? ⟨w.heap.size, 1, none⟩ = some (Value.slice p1 s.jobs.length c1) := bx3.cell 1
          have c3_2 : w3.cell? ⟨w.heap.size, 2, none⟩ = some (Value.slice p2 s.nodes.length c2) := bx3.cell 2
          have c3_3 : w3.cell? ⟨w.heap.size, 3, none⟩ = some (Value.slice p3 s.leases.length c3) := bx3.cell 3
          clear hb3 c2_1 c2_2 c2_3
          go_wp2_with fail
          go_ret2
          exact ⟨hB3, .inl ⟨by rw [HE.out]; exact HN6.out, by rw [HE.out]; rfl⟩⟩
      · have hE : checkE s = rowsE JobD.name jobE none s.jobs := by unfold checkE; rw [if_neg (by rw [q0]; simp), if_neg q1, if_pos q5]
        have hne : ((rowsE JobD.name jobE none s.jobs : Int) != 0) = true := by rw [bne_iff_ne]; omega
        have HRJ := Lib.hid hRJ
        have HE := Lib.hid hE
        have HN5 := Lib.hid q5
        clear hE q5 hRJ hRN q1
        go_enter Tryd.func11, Tryd.ntmps11
        go_wp2_with fail
        refine (HW.out _).mono ?_
        rintro e w1 ⟨rfl, rfl⟩
        go_wp2_with fail
        refine (HRJ.out _ hb0).mono ?_
        rintro e w2 ⟨rfl, hb2⟩
        have hB2 := hb0.trans (hb2.mono hb0.size)
        have bx2 := bx0.below hb2 bx0.lt
        have c2_1 : w2.cell? ⟨w.heap.size, 1, none⟩ = some (Value.slice p1 s.jobs.length c1) := bx2.cell 1
        have c2_2 : w2.cell? ⟨w.heap.size, 2, none⟩ = some (Value.slice p2 s.nodes.length c2) := bx2.cell 2
        have c2_3 : w2.cell? ⟨w.heap.size, 3, none⟩ = some (Value.slice p3 s.leases.length c3) := bx2.cell 3
        clear hb2 bx2
        go_wp2_with fail
        go_ret2
        exact ⟨hB2, .inl ⟨by rw [HE.out]; exact HN5.out, by rw [HE.out]; rfl⟩⟩
end Go.Proofs.YtoepchgoacdodaaDoor
