/-
  Several texts in one: SvPuts.
-/
import Derived.Test.YtffddjdfpggglaaGreatDoorPkSvLaw
import Derived.Test.YtffddjdfpggglaaGreatDoorPkAt
set_option linter.unusedVariables false
set_option linter.unusedSimpArgs false
set_option maxHeartbeats 16000000
set_option maxRecDepth 100000
namespace Go.Proofs.YtffddjdfpggglaaGreatDoor
theorem field_jobs (a : Int) (p1 p2 p3 : Option Addr) (n1 n2 n3 c1 c2 c3 : Nat) (W : World) : (Instr.field 26 (.agg #[Value.int .i64 a, Value.slice p1 n1 c1, Value.slice p2 n2 c2, Value.slice p3 n3 c3]) 1).run Tryz.prog W = .ok (Value.slice p1 n1 c1) W := by kernel_rfl
theorem put_has {v : Srv} (hv : SrvOk v) {j : JobD} (h : (doR v (qPut j)).code = 0) : ((doR v (qPut j)).srv.st.jobs.any fun y => decide (j = y)) = true := by
  rw [(put_done h).2.2.1, List.any_eq_true]
  exact ⟨j, (putL_mem hv.1.sj j j).2 (.inl rfl), by simp⟩
theorem put_del2 {v : Srv} (hv : SrvOk v) {j : JobD} (h : (doR v (qPut j)).code = 0) :
    (doR (doR v (qPut j)).srv (qDel j.name)).code = 2 ∨ ((doR (doR v (qPut j)).srv (qDel j.name)).code = 0 ∧ (doR (doR v (qPut j)).srv (qDel j.name)).told.isSome = true ∧
      (doR (doR (doR v (qPut j)).srv (qDel j.name)).srv (qDel j.name)).code = 6 ∧ ixBy JobD.name (doR (doR (doR v (qPut j)).srv (qDel j.name)).srv (qDel j.name)).srv.st.jobs j.name 0 = -1 ∧
      ixBy LeaseD.job (doR (doR (doR v (qPut j)).srv (qDel j.name)).srv (qDel j.name)).srv.st.leases j.name 0 = -1) := by
  rcases put_del hv h with h1 | ⟨h1, h2, h3, h4, h5, h6⟩
  · exact .inl h1
  · refine .inr ⟨h1, ?_, h3, ?_, ?_⟩
    · cases ht : (doR (doR v (qPut j)).srv (qDel j.name)).told with
      | none => exact absurd ht h2
      | some d => rfl
    · rw [h4]; exact ixBy_neg _ _ _ _ h5
    · rw [h4]; exact ixBy_neg _ _ _ _ h6
end Go.Proofs.YtffddjdfpggglaaGreatDoor
