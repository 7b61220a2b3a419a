/-
  Plain: what it means that nothing is wrong with a state.
-/
import Derived.Test.YtoepchgoacdodaaDoorStL
set_option linter.unusedVariables false
set_option linter.unusedSimpArgs false
namespace Go.Proofs.YtoepchgoacdodaaDoor
structure Fine (s : St) : Prop where
  rev : 0 ≤ s.rev ∧ s.rev ≤ 1099511627776
  nj : s.jobs.length ≤ 40
  nl : s.leases.length ≤ 40
  nn : s.nodes.length ≤ 20
  j : ∀ x ∈ s.jobs, jobE x = 0
  sj : Sorted JobD.name s.jobs
  n : ∀ x ∈ s.nodes, nodeE x = 0
  sn : Sorted NodeD.name s.nodes
  l : ∀ x ∈ s.leases, leaseE s.jobs s.nodes x = 0
  sl : Sorted LeaseD.job s.leases
  room : ∀ n ∈ s.nodes, usedBy s.jobs n.name s.leases ≤ n.room
theorem fine_iff (s : St) : checkE s = 0 ↔ Fine s := by
  unfold checkE
  constructor
  · intro h
    split at h
    · cases h
    rename_i h1
    split at h
    · cases h
    rename_i h2
    split at h
    · rename_i h3; exact absurd h h3
    rename_i h3
    split at h
    · rename_i h4; exact absurd h h4
    rename_i h4
    split at h
    · rename_i h5; exact absurd h h5
    rename_i h5
    split at h
    · rename_i h6
      obtain ⟨a1, a2⟩ := rowsE_ok.1 (Classical.not_not.1 h3)
      obtain ⟨b1, b2⟩ := rowsE_ok.1 (Classical.not_not.1 h4)
      obtain ⟨c1, c2⟩ := rowsE_ok.1 (Classical.not_not.1 h5)
      refine ⟨?_, by omega, by omega, by omega, a1, a2, b1, b2, c1, c2, fun n hn => ?_⟩
      · cases hw : withinB s.rev 0 1099511627776
        · exact absurd hw h1
        · exact withinB_iff.1 hw
      · unfold roomOk at h6
        exact of_decide_eq_true (List.all_eq_true.1 h6 n hn)
    · cases h
  · intro h
    have e1 := withinB_iff.2 h.rev
    rw [if_neg (by rw [e1]; simp), if_neg (by have := h.nj; have := h.nl; have := h.nn; omega), if_neg (by rw [rowsE_ok.2 ⟨h.j, h.sj⟩]; simp), if_neg (by rw [rowsE_ok.2 ⟨h.n, h.sn⟩]; simp), if_neg (by rw [rowsE_ok.2 ⟨h.l, h.sl⟩]; simp), if_pos]
    unfold roomOk
    rw [List.all_eq_true]
    exact fun n hn => decide_eq_true (h.room n hn)
theorem leaseE_zero {jobs : List JobD} {nodes : List NodeD} {l : LeaseD} (h : leaseE jobs nodes l = 0) : (∃ j, jobAt jobs l.job = some j) ∧ (∃ n, nodeAt nodes l.node = some n) ∧ 0 ≤ l.till ∧ l.till ≤ 1099511627776 := by
  unfold leaseE at h
  split at h
  · rename_i h1
    rw [Bool.and_eq_true] at h1
    split at h
    · rename_i h2
      exact ⟨Option.isSome_iff_exists.1 h1.1, Option.isSome_iff_exists.1 h1.2, withinB_iff.1 h2⟩
    · cases h
  · cases h
theorem nodeE_room {n : NodeD} (h : nodeE n = 0) : 0 ≤ n.room ∧ n.room ≤ 1000000 := by
  unfold nodeE at h
  split at h
  · split at h
    · rename_i h2
      exact withinB_iff.1 h2
    · cases h
  · cases h
theorem jobAt_mem {l : List JobD} {nm : ByteArray} {j : JobD} (h : jobAt l nm = some j) : j ∈ l ∧ j.name = nm := by
  refine ⟨List.mem_of_find?_eq_some h, ?_⟩
  have := List.find?_some h
  simpa using this
theorem nodeAt_mem {l : List NodeD} {nm : ByteArray} {j : NodeD} (h : nodeAt l nm = some j) : j ∈ l ∧ j.name = nm := by
  refine ⟨List.mem_of_find?_eq_some h, ?_⟩
  have := List.find?_some h
  simpa using this
theorem jobAt_of {l : List JobD} (hs : Sorted JobD.name l) {j : JobD} (h : j ∈ l) : jobAt l j.name = some j := by
  induction l with
  | nil => cases h
  | cons x r ih =>
    obtain ⟨h1, h2⟩ := List.pairwise_cons.1 hs
    unfold jobAt
    rw [List.find?_cons]
    rcases List.mem_cons.1 h with rfl | h
    · simp
    · have hne : x.name ≠ j.name := ltS_ne (h1 j h)
      have : decide (x.name = j.name) = false := decide_eq_false hne
      rw [this]
      exact ih h2 h
theorem nodeAt_of {l : List NodeD} (hs : Sorted NodeD.name l) {j : NodeD} (h : j ∈ l) : nodeAt l j.name = some j := by
  induction l with
  | nil => cases h
  | cons x r ih =>
    obtain ⟨h1, h2⟩ := List.pairwise_cons.1 hs
    unfold nodeAt
    rw [List.find?_cons]
    rcases List.mem_cons.1 h with rfl | h
    · simp
    · have hne : x.name ≠ j.name := ltS_ne (h1 j h)
      have : decide (x.name = j.name) = false := decide_eq_false hne
      rw [this]
      exact ih h2 h
/-- What Used answers. -/
def usedR (s : St) (nm : ByteArray) : Int × Nat := if checkE s ≠ 0 then (0, checkE s) else if (nodeAt s.nodes nm).isSome then (usedBy s.jobs nm s.leases, 0) else (0, 6)
end Go.Proofs.YtoepchgoacdodaaDoor
