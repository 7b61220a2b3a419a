/-
  Several texts in one: SvGrants.
-/
import Derived.Test.YtffddjdfpggglaaGreatDoorPkSvPuts
set_option linter.unusedVariables false
set_option linter.unusedSimpArgs false
set_option maxHeartbeats 16000000
set_option maxRecDepth 100000
namespace Go.Proofs.YtffddjdfpggglaaGreatDoor
theorem ixBy_at {α : Type} {key : α → ByteArray} {nm : ByteArray} : ∀ {l : List α} {k i : Nat} {x : α}, Sorted key l → l[k]? = some x → key x = nm → ixBy key l nm i = ((i + k : Nat) : Int)
  | [], k, i, x, _, h, _ => by simp at h
  | a :: r, k, i, x, hs, h, he => by
    rw [ixBy_cons]
    obtain ⟨h1, h2⟩ := List.pairwise_cons.1 hs
    cases k with
    | zero => simp at h; subst h; rw [if_pos he]; rfl
    | succ k =>
      simp only [List.getElem?_cons_succ] at h
      have hne : key a ≠ nm := fun e => by
        have := h1 x (List.mem_of_getElem? h)
        rw [e, ← he, ltS_irrefl] at this; cases this
      rw [if_neg hne, ixBy_at h2 h he]
      congr 1; omega
theorem grant2 {v : Srv} (hv : SrvOk v) {l : LeaseD} (h : (doR v (qGrant l)).code = 0) :
    (∃ (j : JobD) (k : Nat), v.st.jobs[k]? = some j ∧ ixBy JobD.name v.st.jobs l.job 0 = (k : Int) ∧ (doR v (qGrant l)).srv.st.jobs = v.st.jobs.set k (grantJ j) ∧ 0 ≤ j.tries ∧ j.tries ≤ 100) ∧ ixBy LeaseD.job v.st.leases l.job 0 = -1 ∧ ((doR v (qGrant l)).srv.st.leases.any fun y => decide (l = y)) = true ∧
    (doR (doR v (qGrant l)).srv (qGrant l)).code = 7 ∧ (doR (doR v (qGrant l)).srv (qGrant l)).srv = (doR v (qGrant l)).srv ∧
    ((doR (doR v (qGrant l)).srv (qFree l.job)).code = 2 ∨ ((doR (doR v (qGrant l)).srv (qFree l.job)).code = 0 ∧ (doR (doR (doR v (qGrant l)).srv (qFree l.job)).srv (qFree l.job)).code = 6)) := by
  obtain ⟨⟨j, h1, h2, h3⟩, h4, h5, h6, h7, h8⟩ := grant_twice hv h
  have hj := hv.1.j j (jobAt_some h1).1
  refine ⟨⟨j, _, h2, ?_, h3, (jobE_iff.1 hj).2.2.2.1, (jobE_iff.1 hj).2.2.2.2⟩, ixBy_neg _ _ _ _ h4, ?_, h6, h7, h8⟩
  · have := ixBy_at (i := 0) hv.1.sj h2 (jobAt_some h1).2
    rw [this]; congr 1; omega
  · rw [List.any_eq_true]; exact ⟨l, h5, by simp⟩
end Go.Proofs.YtffddjdfpggglaaGreatDoor
