/-
  Several texts in one: FineSz, LessL, RoomL.
-/
import Derived.Test.YtkommikehbbhbaaGreatDoorPkStateA
import Derived.Test.YtkommikehbbhbaaGreatDoorPkStateB
/-
  Plain: a state that may be is small.
-/
set_option linter.unusedVariables false
set_option linter.unusedSimpArgs false
namespace Go.Proofs.YtkommikehbbhbaaGreatDoor
theorem jobE_iff {j : JobD} : jobE j = 0 ↔ (nameOk j.name = true ∧ textOk j.tag = true) ∧ (-1000 ≤ j.prio ∧ j.prio ≤ 1000) ∧ (0 ≤ j.need ∧ j.need ≤ 1000000) ∧ 0 ≤ j.tries ∧ j.tries ≤ 100 := by
  unfold jobE
  constructor
  · intro h
    split at h
    · rename_i h1
      split at h
      · rename_i h2
        simp only [Bool.and_eq_true, withinB_iff] at h1 h2
        exact ⟨h1, h2.1.1, h2.1.2, h2.2⟩
      · cases h
    · cases h
  · intro ⟨h1, h2, h3, h4⟩
    rw [if_pos (by simp only [Bool.and_eq_true]; exact h1), if_pos (by simp only [Bool.and_eq_true, withinB_iff]; exact ⟨⟨h2, h3⟩, h4⟩)]
theorem nodeE_iff {n : NodeD} : nodeE n = 0 ↔ (nameOk n.name = true ∧ textOk n.zone = true) ∧ 0 ≤ n.room ∧ n.room ≤ 1000000 := by
  unfold nodeE
  constructor
  · intro h
    split at h
    · rename_i h1
      split at h
      · rename_i h2
        simp only [Bool.and_eq_true, withinB_iff] at h1 h2
        exact ⟨h1, h2⟩
      · cases h
    · cases h
  · intro ⟨h1, h2⟩
    rw [if_pos (by simp only [Bool.and_eq_true]; exact h1), if_pos (by simp only [withinB_iff]; exact h2)]
theorem textOk_sz {s : ByteArray} (h : textOk s = true) : s.size ≤ 16 := by
  unfold textOk at h
  rw [Bool.and_eq_true] at h
  exact of_decide_eq_true h.1
theorem nameOk_sz {s : ByteArray} (h : nameOk s = true) : s.size ≤ 16 := by
  unfold nameOk at h
  rw [Bool.and_eq_true] at h
  exact textOk_sz h.2
theorem Fine.sz {s : St} (h : Fine s) : StSz s where
  j := fun x hx => by
    obtain ⟨⟨h1, h2⟩, _⟩ := jobE_iff.1 (h.j x hx)
    have := nameOk_sz h1
    have := textOk_sz h2
    omega
  n := fun x hx => by
    obtain ⟨⟨h1, h2⟩, _⟩ := nodeE_iff.1 (h.n x hx)
    have := nameOk_sz h1
    have := textOk_sz h2
    omega
  nr := fun x hx => by
    obtain ⟨_, h1, h2⟩ := nodeE_iff.1 (h.n x hx)
    omega
  lj := by have := h.nj; omega
  ln := by have := h.nn; omega
  ll := by have := h.nl; omega
end Go.Proofs.YtkommikehbbhbaaGreatDoor

/-
  Plain: a state without one of its leases, or without a job that has none, may be.
-/
set_option linter.unusedVariables false
set_option linter.unusedSimpArgs false
namespace Go.Proofs.YtkommikehbbhbaaGreatDoor
theorem usedBy_sub (jobs : List JobD) (hneed : ∀ nm, 0 ≤ needOf jobs nm) (nm : ByteArray) {l l' : List LeaseD} (h : l'.Sublist l) : usedBy jobs nm l' ≤ usedBy jobs nm l := by
  induction h with
  | slnil => exact Int.le_refl _
  | cons a _ ih =>
    show _ ≤ (if a.node = nm then needOf jobs a.job else 0) + _
    have := hneed a.job
    split <;> omega
  | cons_cons a _ ih =>
    show (if a.node = nm then needOf jobs a.job else 0) + _ ≤ (if a.node = nm then needOf jobs a.job else 0) + _
    omega
theorem fine_need {s : St} (h : Fine s) (nm : ByteArray) : 0 ≤ needOf s.jobs nm := (needOf_bd h.j nm).1
/-- Without some leases a state may still be. -/
theorem Fine.lessL {s : St} (h : Fine s) (l' : List LeaseD) (hs : l'.Sublist s.leases) : Fine { s with leases := l' } where
  rev := h.rev
  nj := h.nj
  nl := Nat.le_trans hs.length_le h.nl
  nn := h.nn
  j := h.j
  sj := h.sj
  n := h.n
  sn := h.sn
  l := fun x hx => h.l x (hs.subset hx)
  sl := List.Pairwise.sublist hs h.sl
  room := fun n hn => Int.le_trans (usedBy_sub s.jobs (fine_need h) n.name hs) (h.room n hn)
theorem find_erase {α : Type} (p : α → Bool) (l : List α) (i : Nat) (hi : i < l.length) (hp : p l[i] = false) : (l.eraseIdx i).find? p = l.find? p := by
  have h1 : l = l.take i ++ l[i] :: l.drop (i + 1) := by
    rw [← List.drop_eq_getElem_cons hi, List.take_append_drop]
  have h2 : l.find? p = (l.take i ++ l[i] :: l.drop (i + 1)).find? p := congrArg (List.find? p) h1
  rw [List.eraseIdx_eq_take_drop_succ, h2, List.find?_append, List.find?_append, List.find?_cons, hp]
theorem usedBy_congr {jobs jobs' : List JobD} (nm : ByteArray) : ∀ (l : List LeaseD), (∀ x ∈ l, needOf jobs' x.job = needOf jobs x.job) → usedBy jobs' nm l = usedBy jobs nm l
  | [], _ => rfl
  | a :: r, h => by
    show (if a.node = nm then needOf jobs' a.job else 0) + usedBy jobs' nm r = (if a.node = nm then needOf jobs a.job else 0) + usedBy jobs nm r
    rw [h a List.mem_cons_self, usedBy_congr nm r fun x hx => h x (List.mem_cons_of_mem _ hx)]
theorem ixBy_lt {α : Type} (key : α → ByteArray) (l : List α) (nm : ByteArray) : ixBy key l nm 0 < 0 ↔ ∀ x ∈ l, key x ≠ nm := by
  constructor
  · intro h x hx he
    have := ixBy_pos key l nm 0 x hx he
    omega
  · intro h
    rw [ixBy_neg key l nm 0 h]; decide
theorem sorted_erase {α : Type} {key : α → ByteArray} {l : List α} (h : Sorted key l) {i : Nat} (hi : i < l.length) : ∀ x ∈ l.eraseIdx i, key x ≠ key l[i] := by
  intro x hx
  obtain ⟨j, hj, hne, rfl⟩ := List.mem_eraseIdx_iff_getElem.1 hx
  rcases Nat.lt_or_gt_of_ne hne with hlt | hlt
  · exact ltS_ne (List.pairwise_iff_getElem.1 h j i hj hi hlt)
  · exact fun e => ltS_ne (List.pairwise_iff_getElem.1 h i j hi hj hlt) e.symm
/-- Without one job a state may be just if the job has no lease. -/
theorem Fine.lessJ {s : St} (h : Fine s) (i : Nat) (hi : i < s.jobs.length) : checkE { s with jobs := s.jobs.eraseIdx i } = 0 ↔ ixBy LeaseD.job s.leases s.jobs[i].name 0 < 0 := by
  rw [ixBy_lt, fine_iff]
  have hsub := List.eraseIdx_sublist s.jobs i
  constructor
  · intro hf x hx he
    obtain ⟨⟨j, hj⟩, _⟩ := leaseE_zero (hf.l x hx)
    obtain ⟨hm, hn⟩ := jobAt_mem hj
    exact sorted_erase h.sj hi j hm (by rw [hn, he])
  · intro hno
    have hat : ∀ x ∈ s.leases, jobAt (s.jobs.eraseIdx i) x.job = jobAt s.jobs x.job := fun x hx => by
      unfold jobAt
      exact find_erase _ _ i hi (decide_eq_false (fun e => hno x hx e.symm))
    have hneed : ∀ x ∈ s.leases, needOf (s.jobs.eraseIdx i) x.job = needOf s.jobs x.job := fun x hx => by
      unfold needOf; rw [hat x hx]
    exact {
      rev := h.rev
      nj := Nat.le_trans hsub.length_le h.nj
      nl := h.nl
      nn := h.nn
      j := fun x hx => h.j x (hsub.subset hx)
      sj := List.Pairwise.sublist hsub h.sj
      n := h.n
      sn := h.sn
      l := fun x hx => by
        have := h.l x hx
        unfold leaseE at this ⊢
        show (if ((jobAt (s.jobs.eraseIdx i) x.job).isSome && _) = true then _ else _) = _
        rw [hat x hx]
        exact this
      sl := h.sl
      room := fun n hn => by
        show usedBy (s.jobs.eraseIdx i) n.name s.leases ≤ _
        rw [usedBy_congr n.name s.leases hneed]
        exact h.room n hn }
/-- With one node more, of another name, in its place, a state may be. -/
theorem Fine.moreN {s : St} (h : Fine s) (n : NodeD) (k : Nat) (hk : k ≤ s.nodes.length) (h19 : s.nodes.length ≤ 19) (hn : nodeE n = 0)
    (hb : ∀ x ∈ s.nodes.take k, ltS x.name n.name = true) (ha : ∀ x ∈ s.nodes.drop k, ltS n.name x.name = true) : Fine { s with nodes := s.nodes.take k ++ n :: s.nodes.drop k } := by
  have hne : ∀ x ∈ s.nodes, x.name ≠ n.name := fun x hx => by
    rw [← List.take_append_drop k s.nodes, List.mem_append] at hx
    rcases hx with hx | hx
    · exact ltS_ne (hb x hx)
    · exact fun e => ltS_ne (ha x hx) e.symm
  have hall : ∀ x, x ∈ s.nodes ↔ x ∈ s.nodes.take k ∨ x ∈ s.nodes.drop k := fun x => by rw [← List.mem_append, List.take_append_drop]
  have hmem : ∀ x, x ∈ s.nodes.take k ++ n :: s.nodes.drop k ↔ x = n ∨ x ∈ s.nodes := fun x => by
    rw [hall x]
    simp only [List.mem_append, List.mem_cons]
    constructor
    · rintro (h | rfl | h)
      · exact .inr (.inl h)
      · exact .inl rfl
      · exact .inr (.inr h)
    · rintro (rfl | h | h)
      · exact .inr (.inl rfl)
      · exact .inl h
      · exact .inr (.inr h)
  have hat : ∀ nm, nm ≠ n.name → nodeAt (s.nodes.take k ++ n :: s.nodes.drop k) nm = nodeAt s.nodes nm := fun nm hnm => by
    unfold nodeAt
    have e : s.nodes.find? (fun m => decide (m.name = nm)) = (s.nodes.take k ++ s.nodes.drop k).find? (fun m => decide (m.name = nm)) := by rw [List.take_append_drop]
    have : decide (n.name = nm) = false := decide_eq_false fun e => hnm e.symm
    rw [e, List.find?_append, List.find?_append, List.find?_cons, this]
  have hno : ∀ x ∈ s.leases, x.node ≠ n.name := fun x hx e => by
    obtain ⟨_, ⟨m, hm⟩, _⟩ := leaseE_zero (h.l x hx)
    obtain ⟨h1, h2⟩ := nodeAt_mem hm
    exact hne m h1 (by rw [h2, e])
  have hzero : ∀ l : List LeaseD, (∀ x ∈ l, x.node ≠ n.name) → usedBy s.jobs n.name l = 0 := fun l => by
    induction l with
    | nil => intro _; rfl
    | cons a r ih =>
      intro hl
      show (if a.node = n.name then needOf s.jobs a.job else 0) + usedBy s.jobs n.name r = 0
      rw [if_neg (hl a List.mem_cons_self), ih fun x hx => hl x (List.mem_cons_of_mem _ hx)]; rfl
  refine { rev := h.rev, nj := h.nj, nl := h.nl, nn := ?_, j := h.j, sj := h.sj, n := ?_, sn := ?_, l := ?_, sl := h.sl, room := ?_ }
  · show (s.nodes.take k ++ n :: s.nodes.drop k).length ≤ 20
    rw [List.length_append, List.length_cons, List.length_take, List.length_drop]; omega
  · intro x hx
    rcases (hmem x).1 hx with rfl | hx
    · exact hn
    · exact h.n x hx
  · show List.Pairwise _ (s.nodes.take k ++ n :: s.nodes.drop k)
    have h0 := h.sn
    unfold Sorted at h0
    rw [← List.take_append_drop k s.nodes, List.pairwise_append] at h0
    obtain ⟨p1, p2, p3⟩ := h0
    rw [List.pairwise_append]
    refine ⟨p1, List.pairwise_cons.2 ⟨ha, p2⟩, fun x hx y hy => ?_⟩
    rcases List.mem_cons.1 hy with rfl | hy
    · exact hb x hx
    · exact p3 x hx y hy
  · intro x hx
    have := h.l x hx
    unfold leaseE at this ⊢
    show (if (_ && (nodeAt (s.nodes.take k ++ n :: s.nodes.drop k) x.node).isSome) = true then _ else _) = _
    rw [hat _ (hno x hx)]
    exact this
  · intro m hm
    rcases (hmem m).1 hm with rfl | hm
    · rw [hzero s.leases hno]
      exact (nodeE_room hn).1
    · exact h.room m hm
end Go.Proofs.YtkommikehbbhbaaGreatDoor

/-
  Plain: a state with more room, or less need, may be.
-/
set_option linter.unusedVariables false
set_option linter.unusedSimpArgs false
namespace Go.Proofs.YtkommikehbbhbaaGreatDoor
theorem map_set_key {α β : Type} (f : α → β) : ∀ (l : List α) (i : Nat) (x y : α), l[i]? = some x → f y = f x → (l.set i y).map f = l.map f
  | [], i, _, _, h, _ => by simp at h
  | a :: r, 0, x, y, h, he => by
    simp at h; subst h
    simp [he]
  | a :: r, i + 1, x, y, h, he => by
    simp at h
    simp [map_set_key f r i x y h he]
theorem sorted_map {α : Type} {key : α → ByteArray} {l l' : List α} (h : Sorted key l) (he : l'.map key = l.map key) : Sorted key l' := by
  have h1 : (l.map key).Pairwise (fun a b => ltS a b = true) := List.pairwise_map.2 h
  rw [← he] at h1
  exact List.pairwise_map.1 h1
theorem needOf_set (nm : ByteArray) : ∀ (l : List JobD) (i : Nat) (x y : JobD), l[i]? = some x → y.name = x.name → y.need ≤ x.need → needOf (l.set i y) nm ≤ needOf l nm
  | [], i, _, _, h, _, _ => by simp at h
  | a :: r, 0, x, y, h, he, hn => by
    simp at h; subst h
    unfold needOf jobAt
    simp only [List.set_cons_zero, List.find?_cons, he]
    split
    · simpa using hn
    · exact Int.le_refl _
  | a :: r, i + 1, x, y, h, he, hn => by
    simp at h
    have ih := needOf_set nm r i x y h he hn
    unfold needOf jobAt at ih ⊢
    simp only [List.set_cons_succ, List.find?_cons]
    split
    · exact Int.le_refl _
    · exact ih
theorem jobAt_set_is (nm : ByteArray) (l : List JobD) (i : Nat) (x y : JobD) (h : l[i]? = some x) (he : y.name = x.name) : (jobAt (l.set i y) nm).isSome = (jobAt l nm).isSome := by
  unfold jobAt
  have key : ∀ m : List JobD, (m.find? fun j => decide (j.name = nm)).isSome = (m.map JobD.name).any fun a => decide (a = nm) := fun m => by
    induction m with
    | nil => rfl
    | cons a r ih =>
      rw [List.find?_cons, List.map_cons, List.any_cons, ← ih]
      cases decide (a.name = nm) <;> rfl
  rw [key, key, map_set_key JobD.name l i x y h he]
theorem nodeAt_set_is (nm : ByteArray) (l : List NodeD) (i : Nat) (x y : NodeD) (h : l[i]? = some x) (he : y.name = x.name) : (nodeAt (l.set i y) nm).isSome = (nodeAt l nm).isSome := by
  unfold nodeAt
  have key : ∀ m : List NodeD, (m.find? fun j => decide (j.name = nm)).isSome = (m.map NodeD.name).any fun a => decide (a = nm) := fun m => by
    induction m with
    | nil => rfl
    | cons a r ih =>
      rw [List.find?_cons, List.map_cons, List.any_cons, ← ih]
      cases decide (a.name = nm) <;> rfl
  rw [key, key, map_set_key NodeD.name l i x y h he]
theorem usedBy_mono {jobs jobs' : List JobD} (h : ∀ nm, needOf jobs' nm ≤ needOf jobs nm) (nm : ByteArray) : ∀ l : List LeaseD, usedBy jobs' nm l ≤ usedBy jobs nm l
  | [] => Int.le_refl _
  | a :: r => by
    show (if a.node = nm then needOf jobs' a.job else 0) + usedBy jobs' nm r ≤ (if a.node = nm then needOf jobs a.job else 0) + usedBy jobs nm r
    have := usedBy_mono h nm r
    have := h a.job
    split <;> omega
theorem Fine.setN {s : St} (h : Fine s) (i : Nat) (x y : NodeD) (hx : s.nodes[i]? = some x) (he : y.name = x.name) (hr : x.room ≤ y.room) (hy : nodeE y = 0) : Fine { s with nodes := s.nodes.set i y } where
  rev := h.rev
  nj := h.nj
  nl := h.nl
  nn := by show (s.nodes.set i y).length ≤ 20; rw [List.length_set]; exact h.nn
  j := h.j
  sj := h.sj
  n := fun z hz => by
    rcases List.mem_or_eq_of_mem_set hz with hz | rfl
    · exact h.n z hz
    · exact hy
  sn := sorted_map h.sn (map_set_key NodeD.name s.nodes i x y hx he)
  l := fun z hz => by
    have := h.l z hz
    unfold leaseE at this ⊢
    show (if (_ && (nodeAt (s.nodes.set i y) z.node).isSome) = true then _ else _) = _
    rw [nodeAt_set_is _ _ _ _ _ hx he]
    exact this
  sl := h.sl
  room := fun z hz => by
    show usedBy s.jobs z.name s.leases ≤ z.room
    rcases List.mem_or_eq_of_mem_set hz with hz | rfl
    · exact h.room z hz
    · have := h.room x (List.mem_of_getElem? hx)
      rw [he]; omega
theorem Fine.setJ {s : St} (h : Fine s) (i : Nat) (x y : JobD) (hx : s.jobs[i]? = some x) (he : y.name = x.name) (hr : y.need ≤ x.need) (hy : jobE y = 0) : Fine { s with jobs := s.jobs.set i y } where
  rev := h.rev
  nj := by show (s.jobs.set i y).length ≤ 40; rw [List.length_set]; exact h.nj
  nl := h.nl
  nn := h.nn
  j := fun z hz => by
    rcases List.mem_or_eq_of_mem_set hz with hz | rfl
    · exact h.j z hz
    · exact hy
  sj := sorted_map h.sj (map_set_key JobD.name s.jobs i x y hx he)
  n := h.n
  sn := h.sn
  l := fun z hz => by
    have := h.l z hz
    unfold leaseE at this ⊢
    show (if ((jobAt (s.jobs.set i y) z.job).isSome && _) = true then _ else _) = _
    rw [jobAt_set_is _ _ _ _ _ hx he]
    exact this
  sl := h.sl
  room := fun z hz => Int.le_trans (usedBy_mono (fun nm => needOf_set nm s.jobs i x y hx he hr) z.name s.leases) (h.room z hz)
end Go.Proofs.YtkommikehbbhbaaGreatDoor
