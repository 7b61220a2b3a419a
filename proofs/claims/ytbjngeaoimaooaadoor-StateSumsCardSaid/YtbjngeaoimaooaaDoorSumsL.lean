/-
  Plain: what all nodes give is what all jobs with leases need.
-/
import Derived.Test.YtbjngeaoimaooaaDoorStOk
import Derived.Test.YtbjngeaoimaooaaDoorAtP
set_option linter.unusedVariables false
set_option linter.unusedSimpArgs false
namespace Go.Proofs.YtbjngeaoimaooaaDoor
def sumN (s : St) (l : List NodeD) : Int := (l.map fun n => usedBy s.jobs n.name s.leases).sum
def sumJ (s : St) (l : List JobD) : Int := (l.map fun j => if 0 ≤ ixBy LeaseD.job s.leases j.name 0 then j.need else 0).sum
theorem sum_add {α : Type} (f g : α → Int) (l : List α) : (l.map fun x => f x + g x).sum = (l.map f).sum + (l.map g).sum := by
  induction l with
  | nil => simp
  | cons x r ih => simp only [List.map_cons, List.sum_cons, ih]; omega
theorem sum_zero {α : Type} (f : α → Int) (l : List α) (h : ∀ x ∈ l, f x = 0) : (l.map f).sum = 0 := by
  induction l with
  | nil => simp
  | cons x r ih =>
    simp only [List.map_cons, List.sum_cons]
    rw [h x List.mem_cons_self, ih fun y hy => h y (List.mem_cons_of_mem _ hy)]; rfl
/-- One of them alone counts. -/
theorem sum_one {α : Type} (key : α → ByteArray) (f : α → Int) (l : List α) (hs : Sorted key l) (x : α) (hx : x ∈ l) : (l.map fun y => if key x = key y then f y else 0).sum = f x := by
  induction l with
  | nil => cases hx
  | cons y r ih =>
    obtain ⟨h1, h2⟩ := List.pairwise_cons.1 hs
    simp only [List.map_cons, List.sum_cons]
    rcases List.mem_cons.1 hx with rfl | hx
    · rw [if_pos rfl, sum_zero]
      · omega
      · intro z hz
        rw [if_neg (ltS_ne (h1 z hz))]
    · rw [if_neg (fun e => ltS_ne (h1 x hx) e.symm), ih h2 hx]; omega
theorem sums_nodes (jobs : List JobD) (nodes : List NodeD) (hs : Sorted NodeD.name nodes) : ∀ (ls : List LeaseD), (∀ l ∈ ls, ∃ n, nodeAt nodes l.node = some n) → (nodes.map fun n => usedBy jobs n.name ls).sum = (ls.map fun l => needOf jobs l.job).sum
  | [], _ => sum_zero _ _ fun x _ => rfl
  | l :: r, h => by
    obtain ⟨n, hn⟩ := h l List.mem_cons_self
    obtain ⟨hm, hk⟩ := nodeAt_mem hn
    have ih := sums_nodes jobs nodes hs r fun y hy => h y (List.mem_cons_of_mem _ hy)
    have h1 := sum_one NodeD.name (fun _ => needOf jobs l.job) nodes hs n hm
    rw [hk] at h1
    simp only [List.map_cons, List.sum_cons, usedBy]
    rw [sum_add, ih, h1]
theorem sums_jobs (jobs : List JobD) (hs : Sorted JobD.name jobs) : ∀ (ls : List LeaseD), Sorted LeaseD.job ls → (∀ l ∈ ls, ∃ j, jobAt jobs l.job = some j) →
    (jobs.map fun j => if 0 ≤ ixBy LeaseD.job ls j.name 0 then j.need else 0).sum = (ls.map fun l => needOf jobs l.job).sum
  | [], _, _ => sum_zero _ _ fun x _ => rfl
  | l :: r, hl, h => by
    obtain ⟨j, hj⟩ := h l List.mem_cons_self
    obtain ⟨hm, hk⟩ := jobAt_mem hj
    obtain ⟨h1, h2⟩ := List.pairwise_cons.1 hl
    have ih := sums_jobs jobs hs r h2 fun y hy => h y (List.mem_cons_of_mem _ hy)
    have h3 := sum_one JobD.name JobD.need jobs hs j hm
    rw [hk] at h3
    have hn : needOf jobs l.job = j.need := by unfold needOf; rw [hj]; rfl
    simp only [List.map_cons, List.sum_cons]
    rw [hn, ← h3, ← ih, ← sum_add]
    congr 1
    refine List.map_congr_left fun x hx => ?_
    rw [ixBy_cons]
    by_cases hq : l.job = x.name
    · rw [if_pos hq, if_pos (by omega), if_pos hq, ixBy_neg LeaseD.job r x.name 0 (fun y hy => by rw [← hq]; exact fun e => ltS_ne (h1 y hy) e.symm), if_neg (by omega)]
      omega
    · rw [if_neg hq, if_neg hq]
      have hsh : ∀ (ls : List LeaseD) (i k : Nat), (0 ≤ ixBy LeaseD.job ls x.name i ↔ 0 ≤ ixBy LeaseD.job ls x.name k) := by
        intro ls
        induction ls with
        | nil => intro i k; simp [ixBy]
        | cons y t ih2 =>
          intro i k
          rw [ixBy_cons, ixBy_cons]
          by_cases hy : y.job = x.name
          · rw [if_pos hy, if_pos hy]; omega
          · rw [if_neg hy, if_neg hy]; exact ih2 _ _
      have := hsh r (0 + 1) 0
      by_cases h5 : 0 ≤ ixBy LeaseD.job r x.name 0
      · rw [if_pos (this.2 h5), if_pos h5]; omega
      · rw [if_neg (fun h6 => h5 (this.1 h6)), if_neg h5]; omega
theorem sums_eq (s : St) (h : Fine s) : sumN s s.nodes = sumJ s s.jobs := by
  unfold sumN sumJ
  rw [sums_nodes s.jobs s.nodes h.sn s.leases (fun l hl => (leaseE_zero (h.l l hl)).2.1), sums_jobs s.jobs h.sj s.leases h.sl (fun l hl => (leaseE_zero (h.l l hl)).1)]
theorem sumN_snoc (s : St) (l : List NodeD) (k : Nat) (x : NodeD) (h : l[k]? = some x) : sumN s (l.take (k + 1)) = sumN s (l.take k) + usedBy s.jobs x.name s.leases := by
  unfold sumN
  rw [List.take_add_one, h, Option.toList_some, List.map_append, List.sum_append]
  simp
theorem sumJ_snoc (s : St) (l : List JobD) (k : Nat) (x : JobD) (h : l[k]? = some x) : sumJ s (l.take (k + 1)) = sumJ s (l.take k) + if 0 ≤ ixBy LeaseD.job s.leases x.name 0 then x.need else 0 := by
  unfold sumJ
  rw [List.take_add_one, h, Option.toList_some, List.map_append, List.sum_append]
  simp
theorem sum_bd {α : Type} (f : α → Int) (b : Int) (l : List α) (h : ∀ x ∈ l, 0 ≤ f x ∧ f x ≤ b) : 0 ≤ (l.map f).sum ∧ (l.map f).sum ≤ b * l.length := by
  induction l with
  | nil => simp
  | cons x r ih =>
    have h1 := h x List.mem_cons_self
    have h2 := ih fun y hy => h y (List.mem_cons_of_mem _ hy)
    simp only [List.map_cons, List.sum_cons, List.length_cons]
    have e : b * ((r.length + 1 : Nat) : Int) = b * r.length + b := by rw [Int.natCast_add, Int.mul_add]; simp
    rw [e]
    omega
theorem usedBy_bd0 (jobs : List JobD) (hneed : ∀ nm, 0 ≤ needOf jobs nm ∧ needOf jobs nm ≤ 1000000) (nm : ByteArray) (l : List LeaseD) : 0 ≤ usedBy jobs nm l ∧ usedBy jobs nm l ≤ 1000000 * (l.length : Int) := by
  induction l with
  | nil => simp [usedBy]
  | cons x r ih =>
    have := hneed x.job
    simp only [usedBy, List.length_cons]
    split <;> omega
theorem sumN_bd (s : St) (h : Fine s) (k : Nat) (hk : k ≤ s.nodes.length) : 0 ≤ sumN s (s.nodes.take k) ∧ sumN s (s.nodes.take k) ≤ 1000000000 := by
  have h1 := sum_bd (fun n => usedBy s.jobs n.name s.leases) 40000000 (s.nodes.take k) (fun x _ => by
    have := usedBy_bd0 s.jobs (needOf_bd h.j) x.name s.leases
    have := h.nl
    omega)
  rw [List.length_take] at h1
  have := h.nn
  unfold sumN
  omega
theorem sumJ_bd (s : St) (h : Fine s) (k : Nat) (hk : k ≤ s.jobs.length) : 0 ≤ sumJ s (s.jobs.take k) ∧ sumJ s (s.jobs.take k) ≤ 1000000000 := by
  have h1 := sum_bd (fun j => if 0 ≤ ixBy LeaseD.job s.leases j.name 0 then j.need else 0) 1000000 (s.jobs.take k) (fun x hx => by
    have := jobE_need (h.j x (List.mem_of_mem_take hx))
    by_cases hq : 0 ≤ ixBy LeaseD.job s.leases x.name 0
    · rw [if_pos hq]; omega
    · rw [if_neg hq]; omega)
  rw [List.length_take] at h1
  have := h.nj
  unfold sumJ
  omega
end Go.Proofs.YtbjngeaoimaooaaDoor
