/-
 Contracts of package json: the fields of a job, a node, a lease.
-/
import Derived.Test.YtoepchgoacdodaaDoorJsonO
import Derived.Test.YtoepchgoacdodaaDoorJsonQ
import Derived.BigRegion
set_option linter.unusedVariables false
set_option linter.unusedSimpArgs false
namespace Go.Proofs.YtoepchgoacdodaaDoor
open Go.RowKit
def fldsJ (a : Addr) (j : JobD) : List FldP := [⟨nName, .txt j.name, a⟩, ⟨nPrio, .num j.prio, a.add 1⟩, ⟨nNeed, .num j.need, a.add 2⟩, ⟨nTries, .num j.tries, a.add 3⟩, ⟨nTag, .txt j.tag, a.add 4⟩]
def fldsN (a : Addr) (n : NodeD) : List FldP := [⟨nName, .txt n.name, a⟩, ⟨nRoom, .num n.room, a.add 1⟩, ⟨nZone, .txt n.zone, a.add 2⟩]
def fldsL (a : Addr) (l : LeaseD) : List FldP := [⟨nJob, .txt l.job, a⟩, ⟨nNode, .txt l.node, a.add 1⟩, ⟨nUntil, .num l.till, a.add 2⟩]
set_option maxHeartbeats 8000000 in
set_option maxRecDepth 100000 in
theorem jobFields_any (a : Addr) (j : JobD) (w : World) :
    Calls Tryd.prog 14 #[.pointer (some a)] w fun e w' => ∃ g cs, e = .returned (.slice (some ⟨g, 0, none⟩) 5 5) ∧ Blk w' g 75 cs ∧ cs.toList = ((fldsJ a j).map fldRow).flatten ∧ w.heap.size ≤ g ∧ Below w.heap.size w w' := by
  go_enter Tryd.func14, Tryd.ntmps14
  go_wp2_with fail
  go_big_region
  go_wp2_with fail
  go_ret
  exact ⟨w.heap.size, _, rfl, (Blk.new w _ _).drew, rfl, Nat.le_refl _, ((Below.refl _ _).alloc (Nat.le_refl _) _).drew⟩
set_option maxHeartbeats 8000000 in
set_option maxRecDepth 100000 in
theorem nodeFields_any (a : Addr) (n : NodeD) (w : World) :
    Calls Tryd.prog 16 #[.pointer (some a)] w fun e w' => ∃ g cs, e = .returned (.slice (some ⟨g, 0, none⟩) 3 3) ∧ Blk w' g 75 cs ∧ cs.toList = ((fldsN a n).map fldRow).flatten ∧ w.heap.size ≤ g ∧ Below w.heap.size w w' := by
  go_enter Tryd.func16, Tryd.ntmps16
  go_wp2_with fail
  go_big_region
  go_wp2_with fail
  go_ret
  exact ⟨w.heap.size, _, rfl, (Blk.new w _ _).drew, rfl, Nat.le_refl _, ((Below.refl _ _).alloc (Nat.le_refl _) _).drew⟩
set_option maxHeartbeats 8000000 in
set_option maxRecDepth 100000 in
theorem leaseFields_any (a : Addr) (l : LeaseD) (w : World) :
    Calls Tryd.prog 18 #[.pointer (some a)] w fun e w' => ∃ g cs, e = .returned (.slice (some ⟨g, 0, none⟩) 3 3) ∧ Blk w' g 75 cs ∧ cs.toList = ((fldsL a l).map fldRow).flatten ∧ w.heap.size ≤ g ∧ Below w.heap.size w w' := by
  go_enter Tryd.func18, Tryd.ntmps18
  go_wp2_with fail
  go_big_region
  go_wp2_with fail
  go_ret
  exact ⟨w.heap.size, _, rfl, (Blk.new w _ _).drew, rfl, Nat.le_refl _, ((Below.refl _ _).alloc (Nat.le_refl _) _).drew⟩
end Go.Proofs.YtoepchgoacdodaaDoor
