/-
  The contract of state.Check.
-/
import Derived.Test.YtoepchgoacdodaaDoorCheckW
set_option linter.unusedVariables false
set_option linter.unusedSimpArgs false
namespace Go.Proofs.YtoepchgoacdodaaDoor
open Go.RowKit
theorem check_at (s : St) (p1 p2 p3 : Option Addr) (c1 c2 c3 : Nat) (w : World) (hm : StM w w.heap.size p1 p2 p3 s) (hz : StSz s) (hT : Tabs w) (W : World) (hW : Below w.heap.size w W) :
    Calls Tryd.prog 11 #[.agg #[.int .i64 s.rev, .slice p1 s.jobs.length c1, .slice p2 s.nodes.length c2, .slice p3 s.leases.length c3]] W fun e w' => CheckPost W s e w' :=
  check_any s p1 p2 p3 c1 c2 c3 W ((hm.below hW).more hW.size) hz (hT.below hW)
set_option maxHeartbeats 1000000 in
set_option maxRecDepth 100000 in
theorem stCheck_any (s : St) (p1 p2 p3 : Option Addr) (c1 c2 c3 : Nat) (w : World) (hm : StM w w.heap.size p1 p2 p3 s) (hz : StSz s) (hT : Tabs w) :
    Calls Tryd.prog 9 #[.agg #[.int .i64 s.rev, .slice p1 s.jobs.length c1, .slice p2 s.nodes.length c2, .slice p3 s.leases.length c3]] w fun e w' => e = .returned (.int .i64 (checkE s : Int)) ∧ Below w.heap.size w w' := by
  have hc := Lib.hid (check_at s p1 p2 p3 c1 c2 c3 w hm hz hT)
  have hb0 : Below w.heap.size w (w.alloc (.cells #[Value.int .i64 s.rev, Value.slice p1 s.jobs.length c1, Value.slice p2 s.nodes.length c2, Value.slice p3 s.leases.length c3] 32)) := (Below.refl _ _).alloc (Nat.le_refl _) _
  clear hm hz hT
  go_enter Tryd.func9, Tryd.ntmps9
  go_wp2_with fail
  refine (hc.out _ hb0).mono ?_
  rintro e w1 ⟨hb', h⟩
  have hb := hb0.trans (hb'.mono hb0.size)
  rcases h with ⟨hne, rfl⟩ | ⟨h0, gt, bj, bn, bu, rfl, hT⟩
  · have HN := Lib.hid hne
    clear hne
    go_wp2_with fail
    go_ret
    exact ⟨rfl, hb⟩
  · have H0 := Lib.hid h0
    have HT := Lib.hid hT
    clear h0 hT
    go_wp2_with fail
    go_ret
    exact ⟨by rw [H0.out]; rfl, hb⟩
end Go.Proofs.YtoepchgoacdodaaDoor
