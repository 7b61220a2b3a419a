/-
  Several texts in one: FineSz, LessL, RoomL.
-/
import Derived.Test.YtaioadbenigdpaaGreatDoorPkStateA
import Derived.Test.YtaioadbenigdpaaGreatDoorPkStateB
set_option linter.unusedVariables false
set_option linter.unusedSimpArgs false
set_option maxHeartbeats 16000000
set_option maxRecDepth 100000
namespace Go.Proofs.YtaioadbenigdpaaGreatDoor
theorem jobE_iff {j : JobD} : jobE j = 0 ↔ (nameOk j.name = true ∧ textOk j.tag = true) ∧ (-1000 ≤ j.prio ∧ j.prio ≤ 1000) ∧ (0 ≤ j.need ∧ j.need ≤ 1000000) ∧ 0 ≤ j.tries ∧ j.tries ≤ 100 := by
 unfold jobE
 constructor
 ·intro h
  split at h
  ·rename_i h1
   split at h
   ·rename_i h2
    simp only [Bool.and_eq_true, withinB_iff] at h1 h2
    exact ⟨h1, h2.1.1, h2.1.2, h2.2⟩
   ·cases h
  ·cases h
 ·intro ⟨h1, h2, h3, h4⟩
  rw [if_pos (by simp only [Bool.and_eq_true]; exact h1), if_pos (by simp only [Bool.and_eq_true, withinB_iff]; exact ⟨⟨h2, h3⟩, h4⟩)]
theorem nodeE_iff {n : NodeD} : nodeE n = 0 ↔ (nameOk n.name = true ∧ textOk n.zone = true) ∧ 0 ≤ n.room ∧ n.room ≤ 1000000 := by
 unfold nodeE
 constructor
 ·intro h
  split at h
  ·rename_i h1
   split at h
   ·rename_i h2
    simp only [Bool.and_eq_true, withinB_iff] at h1 h2
    exact ⟨h1, h2⟩
   ·cases h
  ·cases h
 ·intro ⟨h1, h2⟩
  rw [if_pos (by simp only [Bool.and_eq_true]; exact h1), if_pos (by simp only [withinB_iff]; exact h2)]
theorem textOk_sz {s : ByteArray} (h : textOk s = true) : s.size ≤ 16 := by
 unfold textOk at h
 rw [Bool.and_eq_true] at h
 exact of_decide_eq_true h.1
theorem nameOk_sz {s : ByteArray} (h : nameOk s = true) : s.size ≤ 16 := by
 unfold nameOk at h
 rw [Bool.and_eq_true] at h
 exact textOk_sz h.2
theorem Fine.sz {s : St} (h : Fine s) : StSz s where
 j := fun x hx => by
  obtain ⟨⟨h1, h2⟩, _⟩ := jobE_iff.1 (h.j x hx)
  have := nameOk_sz h1
  have := textOk_sz h2
  omega
 n := fun x hx => by
  obtain ⟨⟨h1, h2⟩, _⟩ := nodeE_iff.1 (h.n x hx)
  have := nameOk_sz h1
  have := textOk_sz h2
  omega
 nr := fun x hx => by
  obtain ⟨_, h1, h2⟩ := nodeE_iff.1 (h.n x hx)
  omega
 lj := by have := h.nj; omega
 ln := by have := h.nn; omega
 ll := by have := h.nl; omega
end Go.Proofs.YtaioadbenigdpaaGreatDoor
namespace Go.Proofs.YtaioadbenigdpaaGreatDoor
theorem map_set_key {α β : Type} (f : α → β) : ∀ (l : List α) (i : Nat) (x y : α), l[i]? = some x → f y = f x → (l.set i y).map f = l.map f
 | [], i, _, _, h, _ => by simp at h
 | a :: r, 0, x, y, h, he => by
  simp at h; subst h
  simp [he]
 | a :: r, i + 1, x, y, h, he => by
  simp at h
  simp [map_set_key f r i x y h he]
theorem sorted_map {α : Type} {key : α → ByteArray} {l l' : List α} (h : Sorted key l) (he : l'.map key = l.map key) : Sorted key l' := by
 have h1 : (l.map key).Pairwise (fun a b => ltS a b = true) := List.pairwise_map.2 h
 rw [← he] at h1
 exact List.pairwise_map.1 h1
theorem needOf_set (nm : ByteArray) : ∀ (l : List JobD) (i : Nat) (x y : JobD), l[i]? = some x → y.name = x.name → y.need ≤ x.need → needOf (l.set i y) nm ≤ needOf l nm
 | [], i, _, _, h, _, _ => by simp at h
 | a :: r, 0, x, y, h, he, hn => by
  simp at h; subst h
  unfold needOf jobAt
  simp only [List.set_cons_zero, List.find?_cons, he]
  split
  ·simpa using hn
  ·exact Int.le_refl _
 | a :: r, i + 1, x, y, h, he, hn => by
  simp at h
  have ih := needOf_set nm r i x y h he hn
  unfold needOf jobAt at ih ⊢
  simp only [List.set_cons_succ, List.find?_cons]
  split
  ·exact Int.le_refl _
  ·exact ih
theorem jobAt_set_is (nm : ByteArray) (l : List JobD) (i : Nat) (x y : JobD) (h : l[i]? = some x) (he : y.name = x.name) : (jobAt (l.set i y) nm).isSome = (jobAt l nm).isSome := by
 unfold jobAt
 have key : ∀ m : List JobD, (m.find? fun j => decide (j.name = nm)).isSome = (m.map JobD.name).any fun a => decide (a = nm) := fun m => by
  induction m with
  | nil => rfl
  | cons a r ih =>
   rw [List.find?_cons, List.map_cons, List.any_cons, ← ih]
   cases decide (a.name = nm) <;> rfl
 rw [key, key, map_set_key JobD.name l i x y h he]
theorem nodeAt_set_is (nm : ByteArray) (l : List NodeD) (i : Nat) (x y : NodeD) (h : l[i]? = some x) (he : y.name = x.name) : (nodeAt (l.set i y) nm).isSome = (nodeAt l nm).isSome := by
 unfold nodeAt
 have key : ∀ m : List NodeD, (m.find? fun j => decide (j.name = nm)).isSome = (m.map NodeD.name).any fun a => decide (a = nm) := fun m => by
  induction m with
  | nil => rfl
  | cons a r ih =>
   rw [List.find?_cons, List.map_cons, List.any_cons, ← ih]
   cases decide (a.name = nm) <;> rfl
 rw [key, key, map_set_key NodeD.name l i x y h he]
theorem usedBy_mono {jobs jobs' : List JobD} (h : ∀ nm, needOf jobs' nm ≤ needOf jobs nm) (nm : ByteArray) : ∀ l : List LeaseD, usedBy jobs' nm l ≤ usedBy jobs nm l
 | [] => Int.le_refl _
 | a :: r => by
  show (if a.node = nm then needOf jobs' a.job else 0) + usedBy jobs' nm r ≤ (if a.node = nm then needOf jobs a.job else 0) + usedBy jobs nm r
  have := usedBy_mono h nm r
  have := h a.job
  split <;> omega
theorem Fine.setN {s : St} (h : Fine s) (i : Nat) (x y : NodeD) (hx : s.nodes[i]? = some x) (he : y.name = x.name) (hr : x.room ≤ y.room) (hy : nodeE y = 0) : Fine { s with nodes := s.nodes.set i y } where
 rev := h.rev
 nj := h.nj
 nl := h.nl
 nn := by show (s.nodes.set i y).length ≤ 20; rw [List.length_set]; exact h.nn
 j := h.j
 sj := h.sj
 n := fun z hz => by
  rcases List.mem_or_eq_of_mem_set hz with hz | rfl
  ·exact h.n z hz
  ·exact hy
 sn := sorted_map h.sn (map_set_key NodeD.name s.nodes i x y hx he)
 l := fun z hz => by
  have := h.l z hz
  unfold leaseE at this ⊢
  show (if (_ && (nodeAt (s.nodes.set i y) z.node).isSome) = true then _ else _) = _
  rw [nodeAt_set_is _ _ _ _ _ hx he]
  exact this
 sl := h.sl
 room := fun z hz => by
  show usedBy s.jobs z.name s.leases ≤ z.room
  rcases List.mem_or_eq_of_mem_set hz with hz | rfl
  ·exact h.room z hz
  ·have := h.room x (List.mem_of_getElem? hx)
   rw [he]; omega
theorem Fine.setJ {s : St} (h : Fine s) (i : Nat) (x y : JobD) (hx : s.jobs[i]? = some x) (he : y.name = x.name) (hr : y.need ≤ x.need) (hy : jobE y = 0) : Fine { s with jobs := s.jobs.set i y } where
 rev := h.rev
 nj := by show (s.jobs.set i y).length ≤ 40; rw [List.length_set]; exact h.nj
 nl := h.nl
 nn := h.nn
 j := fun z hz => by
  rcases List.mem_or_eq_of_mem_set hz with hz | rfl
  ·exact h.j z hz
  ·exact hy
 sj := sorted_map h.sj (map_set_key JobD.name s.jobs i x y hx he)
 n := h.n
 sn := h.sn
 l := fun z hz => by
  have := h.l z hz
  unfold leaseE at this ⊢
  show (if ((jobAt (s.jobs.set i y) z.job).isSome && _) = true then _ else _) = _
  rw [jobAt_set_is _ _ _ _ _ hx he]
  exact this
 sl := h.sl
 room := fun z hz => Int.le_trans (usedBy_mono (fun nm => needOf_set nm s.jobs i x y hx he hr) z.name s.leases) (h.room z hz)
end Go.Proofs.YtaioadbenigdpaaGreatDoor
