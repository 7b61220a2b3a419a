/-
  Several texts in one: SrvP, SrvL, SrvQ.
-/
import Derived.Test.YtffddjdfpggglaaGreatDoorPkChgP
import Derived.Test.YtffddjdfpggglaaGreatDoorPkFineSz
set_option linter.unusedVariables false
set_option linter.unusedSimpArgs false
set_option maxHeartbeats 16000000
set_option maxRecDepth 100000
namespace Go.Proofs.YtffddjdfpggglaaGreatDoor
structure ReqD where
  kind : Int
  job : JobD
  node : NodeD
  lease : LeaseD
  name : ByteArray
  n : Int
  deriving DecidableEq
def noJ : JobD := ⟨ByteArray.empty, 0, 0, 0, ByteArray.empty⟩
def noN : NodeD := ⟨ByteArray.empty, 0, ByteArray.empty⟩
def noL : LeaseD := ⟨ByteArray.empty, ByteArray.empty, 0⟩
def wholeR (q : ReqD) : ReqD :=
  if q.kind = 1 then ⟨1, q.job, noN, noL, ByteArray.empty, 0⟩ else
  if q.kind = 2 then ⟨2, noJ, q.node, noL, ByteArray.empty, 0⟩ else
  if q.kind = 5 then ⟨5, noJ, noN, q.lease, ByteArray.empty, 0⟩ else
  if q.kind = 3 ∨ q.kind = 4 ∨ q.kind = 6 then ⟨q.kind, noJ, noN, noL, q.name, 0⟩ else
  if q.kind = 7 then ⟨7, noJ, noN, noL, ByteArray.empty, q.n⟩ else
  ⟨q.kind, noJ, noN, noL, ByteArray.empty, 0⟩
def partE (q : ReqD) : Nat :=
  if q.kind = 1 then jobE q.job else
  if q.kind = 2 then nodeE q.node else
  if q.kind = 5 then leaseC q.lease else
  if q.kind = 3 ∨ q.kind = 4 ∨ q.kind = 6 then (if nameOk q.name = true then 0 else 4) else
  if q.kind = 7 then (if withinB q.n 0 1099511627776 = true then 0 else 1) else 0
def reqE (q : ReqD) : Nat := if 1 ≤ q.kind ∧ q.kind ≤ 9 then (if wholeR q = q then partE q else 4) else 1
section
variable {α : Type} (key : α → ByteArray)
def posL (l : List α) (s : ByteArray) : Nat := (l.takeWhile fun x => ltS (key x) s).length
def hasL (l : List α) (s : ByteArray) : Bool := l.any fun x => decide (key x = s)
def putL (l : List α) (x : α) : List α := if hasL key l (key x) = true then l.set (posL key l (key x)) x else l.take (posL key l (key x)) ++ x :: l.drop (posL key l (key x))
def takeL (l : List α) (s : ByteArray) : List α := if hasL key l s = true then l.eraseIdx (posL key l s) else l
end
structure Srv where
  st : St
  now : Int
  deriving DecidableEq
def grantJ (j : JobD) : JobD := { j with tries := j.tries + 1 }
def grantW (s : St) (now : Int) (l : LeaseD) : St × Nat :=
  match jobAt s.jobs l.job with
  | none => (s, 6)
  | some j =>
    if hasL NodeD.name s.nodes l.node = false then (s, 6) else
    if hasL LeaseD.job s.leases l.job = true then (s, 7) else
    if l.till ≤ now then (s, 1) else
    if j.tries = 100 then (s, 2) else
    let t : St := { s with jobs := s.jobs.set (posL JobD.name s.jobs l.job) (grantJ j), leases := putL LeaseD.job s.leases l }
    (t, checkE t)
def doW (v : Srv) (q : ReqD) : Srv × Nat :=
  if q.kind = 1 then let t : St := { v.st with jobs := putL JobD.name v.st.jobs q.job }; (⟨t, v.now⟩, checkE t) else
  if q.kind = 2 then let t : St := { v.st with nodes := putL NodeD.name v.st.nodes q.node }; (⟨t, v.now⟩, checkE t) else
  if q.kind = 3 then (⟨{ v.st with jobs := takeL JobD.name v.st.jobs q.name, leases := v.st.leases.filter fun l => !decide (l.job = q.name) }, v.now⟩, if hasL JobD.name v.st.jobs q.name = true then 0 else 6) else
  if q.kind = 4 then (⟨{ v.st with nodes := takeL NodeD.name v.st.nodes q.name, leases := v.st.leases.filter fun l => !decide (l.node = q.name) }, v.now⟩, if hasL NodeD.name v.st.nodes q.name = true then 0 else 6) else
  if q.kind = 5 then let r := grantW v.st v.now q.lease; (⟨r.1, v.now⟩, r.2) else
  if q.kind = 6 then (⟨{ v.st with leases := takeL LeaseD.job v.st.leases q.name }, v.now⟩, if hasL LeaseD.job v.st.leases q.name = true then 0 else 6) else
  if q.kind = 7 then (if 1099511627776 - v.now < q.n then (v, 1) else (⟨{ v.st with leases := v.st.leases.filter fun l => !decide (l.till ≤ v.now + q.n) }, v.now + q.n⟩, 0)) else
  (v, 0)
def doN (v : Srv) (q : ReqD) : Srv × Nat := if reqE q = 0 then doW v q else (v, reqE q)
def sameT (a b : St) : Bool := decide (a.jobs = b.jobs ∧ a.nodes = b.nodes ∧ a.leases = b.leases)
structure DoR where
  code : Nat
  told : Option DeltaD
  srv : Srv
def doR (v : Srv) (q : ReqD) : DoR :=
  let r := doN v q
  if r.2 = 0 ∧ sameT v.st r.1.st = false then
    if 1099511627776 < v.st.rev + 1 then ⟨2, none, v⟩
    else ⟨0, some (betw v.st { r.1.st with rev := v.st.rev + 1 }), ⟨{ r.1.st with rev := v.st.rev + 1 }, r.1.now⟩⟩
  else ⟨r.2, none, ⟨v.st, if r.2 = 0 then r.1.now else v.now⟩⟩
section
variable {α : Type} {key : α → ByteArray}
theorem tw_mem {p : α → Bool} : ∀ {l : List α} {y : α}, y ∈ l.takeWhile p → p y = true
  | [], y, h => by cases h
  | x :: r, y, h => by
    rw [List.takeWhile_cons] at h
    cases hx : p x
    · rw [hx] at h; cases h
    · rw [hx] at h
      rcases List.mem_cons.1 h with e | h
      · rw [e]; exact hx
      · exact tw_mem h
theorem pos_cons (x : α) (r : List α) (s : ByteArray) : posL key (x :: r) s = if ltS (key x) s = true then posL key r s + 1 else 0 := by
  unfold posL
  rw [List.takeWhile_cons]
  split <;> rfl
theorem take_pos (l : List α) (s : ByteArray) : l.take (posL key l s) = l.takeWhile fun x => ltS (key x) s := by
  unfold posL
  exact (List.prefix_iff_eq_take.1 (List.takeWhile_prefix _)).symm
theorem pos_le (l : List α) (s : ByteArray) : posL key l s ≤ l.length := (List.takeWhile_prefix _).length_le
theorem pos_ge : ∀ {l : List α}, Sorted key l → ∀ {s : ByteArray} {t : Nat} {x : α}, posL key l s ≤ t → l[t]? = some x → ltS (key x) s = false
  | [], _, _, _, _, _, h => by simp at h
  | a :: r, hs, s, t, x, h, hx => by
    obtain ⟨h1, h2⟩ := List.pairwise_cons.1 hs
    rw [pos_cons] at h
    cases ha : ltS (key a) s
    · cases t with
      | zero => simp at hx; rw [← hx]; exact ha
      | succ t =>
        simp only [List.getElem?_cons_succ] at hx
        cases hc : ltS (key x) s
        · rfl
        · have := ltS_trans (h1 x (List.mem_of_getElem? hx)) hc
          rw [ha] at this; cases this
    · rw [ha, if_pos rfl] at h
      cases t with
      | zero => omega
      | succ t => exact pos_ge h2 (t := t) (by omega) (by simpa using hx)
theorem pos_is : ∀ {l : List α} {s : ByteArray} {k : Nat}, k ≤ l.length → (∀ t x, t < k → l[t]? = some x → ltS (key x) s = true) → (∀ x, l[k]? = some x → ltS (key x) s = false) → posL key l s = k
  | [], s, k, hk, _, _ => by simp at hk; subst hk; rfl
  | a :: r, s, k, hk, h1, h2 => by
    rw [pos_cons]
    cases k with
    | zero => rw [h2 a rfl]; rfl
    | succ k =>
      rw [h1 0 a (by omega) rfl, if_pos rfl]
      rw [pos_is (by simpa using hk) (fun t x ht hx => h1 (t + 1) x (by omega) (by simpa using hx)) (fun x hx => h2 x (by simpa using hx))]
theorem has_iff {l : List α} {s : ByteArray} : hasL key l s = true ↔ ∃ x ∈ l, key x = s := by
  unfold hasL
  rw [List.any_eq_true]
  simp
theorem has_not {l : List α} {s : ByteArray} : hasL key l s = false ↔ ∀ x ∈ l, key x ≠ s := by
  unfold hasL
  rw [List.any_eq_false]
  simp
theorem has_at {l : List α} (hs : Sorted key l) {s : ByteArray} (h : hasL key l s = true) : ∃ x, l[posL key l s]? = some x ∧ key x = s := by
  obtain ⟨x, hx, he⟩ := has_iff.1 h
  obtain ⟨t, ht, rfl⟩ := List.mem_iff_getElem.1 hx
  have : posL key l s = t := by
    refine pos_is (by omega) (fun u y hu hy => ?_) (fun y hy => ?_)
    · obtain ⟨hl, rfl⟩ := List.getElem?_eq_some_iff.1 hy
      rw [← he]
      exact List.pairwise_iff_getElem.1 hs u t hl ht hu
    · rw [List.getElem?_eq_getElem ht] at hy
      injection hy with hy
      rw [← hy, he]
      exact ltS_irrefl _
  exact ⟨l[t], by rw [this]; exact List.getElem?_eq_getElem ht, he⟩
theorem at_has {l : List α} {s : ByteArray} {x : α} (hx : l[posL key l s]? = some x) (he : key x = s) : hasL key l s = true := has_iff.2 ⟨x, List.mem_of_getElem? hx, he⟩
theorem mem_set_uniq {l : List α} (hs : Sorted key l) {k : Nat} {x y : α} (hx : l[k]? = some x) (he : key y = key x) (z : α) : z ∈ l.set k y ↔ z = y ∨ (z ∈ l ∧ key z ≠ key y) := by
  obtain ⟨hk, rfl⟩ := List.getElem?_eq_some_iff.1 hx
  rw [List.mem_iff_getElem?]
  constructor
  · rintro ⟨t, ht⟩
    rw [List.getElem?_set] at ht
    by_cases htk : k = t
    · rw [if_pos htk, if_pos (by omega)] at ht
      exact .inl (by injection ht with ht; exact ht.symm)
    · rw [if_neg htk] at ht
      refine .inr ⟨List.mem_of_getElem? ht, fun hc => htk ?_⟩
      obtain ⟨htl, rfl⟩ := List.getElem?_eq_some_iff.1 ht
      rw [he] at hc
      rcases Nat.lt_trichotomy k t with h | h | h
      · have := List.pairwise_iff_getElem.1 hs k t hk htl h
        rw [hc, ltS_irrefl] at this; cases this
      · exact h
      · have := List.pairwise_iff_getElem.1 hs t k htl hk h
        rw [hc, ltS_irrefl] at this; cases this
  · rintro (rfl | ⟨hz, hne⟩)
    · exact ⟨k, by rw [List.getElem?_set_self hk]⟩
    · obtain ⟨t, ht, rfl⟩ := List.mem_iff_getElem.1 hz
      refine ⟨t, ?_⟩
      have : k ≠ t := by rintro rfl; exact hne he.symm
      rw [List.getElem?_set_ne this]
      exact List.getElem?_eq_getElem ht
theorem putL_mem {l : List α} (hs : Sorted key l) (x z : α) : z ∈ putL key l x ↔ z = x ∨ (z ∈ l ∧ key z ≠ key x) := by
  unfold putL
  cases hh : hasL key l (key x)
  · rw [if_neg (by simp)]
    rw [List.mem_append, List.mem_cons]
    have hm : z ∈ l ↔ z ∈ l.take (posL key l (key x)) ∨ z ∈ l.drop (posL key l (key x)) := by
      rw [← List.mem_append, List.take_append_drop]
    constructor
    · rintro (h | rfl | h)
      · exact .inr ⟨hm.2 (.inl h), has_not.1 hh z (hm.2 (.inl h))⟩
      · exact .inl rfl
      · exact .inr ⟨hm.2 (.inr h), has_not.1 hh z (hm.2 (.inr h))⟩
    · rintro (rfl | ⟨h, _⟩)
      · exact .inr (.inl rfl)
      · rcases hm.1 h with h | h
        · exact .inl h
        · exact .inr (.inr h)
  · rw [if_pos rfl]
    obtain ⟨y, hy, he⟩ := has_at hs hh
    exact mem_set_uniq hs hy he.symm z
theorem sorted_mid {a b : List α} {x : α} (h : Sorted key (a ++ b)) (h1 : ∀ y ∈ a, ltS (key y) (key x) = true) (h2 : ∀ y ∈ b, ltS (key x) (key y) = true) : Sorted key (a ++ x :: b) := by
  obtain ⟨ha, hb, hab⟩ := List.pairwise_append.1 h
  refine List.pairwise_append.2 ⟨ha, List.pairwise_cons.2 ⟨h2, hb⟩, fun u hu v hv => ?_⟩
  rcases List.mem_cons.1 hv with rfl | hv
  · exact h1 u hu
  · exact hab u hu v hv
theorem putL_sorted {l : List α} (hs : Sorted key l) (x : α) : Sorted key (putL key l x) := by
  unfold putL
  cases hh : hasL key l (key x)
  · rw [if_neg (by simp)]
    refine sorted_mid (by rw [List.take_append_drop]; exact hs) (fun y hy => ?_) (fun y hy => ?_)
    · rw [take_pos] at hy
      exact tw_mem (p := fun z => ltS (key z) (key x)) hy
    · obtain ⟨t, ht, rfl⟩ := List.mem_iff_getElem.1 hy
      rw [List.length_drop] at ht
      have h1 := pos_ge hs (s := key x) (t := posL key l (key x) + t) (x := l[posL key l (key x) + t]) (by omega) (List.getElem?_eq_getElem (by omega))
      rw [List.getElem_drop]
      have h2 := has_not.1 hh l[posL key l (key x) + t] (List.getElem_mem _)
      rcases ltS_total (key x) (key l[posL key l (key x) + t]) with h | h | h
      · exact h
      · exact absurd h.symm h2
      · rw [h1] at h; cases h
  · rw [if_pos rfl]
    obtain ⟨y, hy, he⟩ := has_at hs hh
    exact sorted_map hs (map_set_key key l _ y x hy he.symm)
theorem takeL_mem {l : List α} (hs : Sorted key l) (s : ByteArray) (z : α) : z ∈ takeL key l s ↔ z ∈ l ∧ key z ≠ s := by
  unfold takeL
  cases hh : hasL key l s
  · rw [if_neg (by simp)]
    exact ⟨fun h => ⟨h, has_not.1 hh z h⟩, fun h => h.1⟩
  · rw [if_pos rfl]
    obtain ⟨y, hy, he⟩ := has_at hs hh
    obtain ⟨hk, hyk⟩ := List.getElem?_eq_some_iff.1 hy
    rw [List.mem_eraseIdx_iff_getElem]
    constructor
    · rintro ⟨t, ht, hne, rfl⟩
      refine ⟨List.getElem_mem _, fun hc => hne ?_⟩
      rw [← he] at hc
      rcases Nat.lt_trichotomy t (posL key l s) with h | h | h
      · have := List.pairwise_iff_getElem.1 hs t _ ht hk h
        rw [hyk, hc, ltS_irrefl] at this; cases this
      · exact h
      · have := List.pairwise_iff_getElem.1 hs _ t hk ht h
        rw [hyk, hc, ltS_irrefl] at this; cases this
    · rintro ⟨hz, hne⟩
      obtain ⟨t, ht, rfl⟩ := List.mem_iff_getElem.1 hz
      refine ⟨t, ht, ?_, rfl⟩
      rintro rfl
      exact hne (by rw [hyk]; exact he)
theorem takeL_sorted {l : List α} (hs : Sorted key l) (s : ByteArray) : Sorted key (takeL key l s) := by
  unfold takeL
  cases hh : hasL key l s
  · rw [if_neg (by simp)]; exact hs
  · rw [if_pos rfl]; exact List.Pairwise.sublist (List.eraseIdx_sublist _ _) hs
theorem takeL_len (l : List α) (s : ByteArray) : (takeL key l s).length ≤ l.length := by
  unfold takeL
  split
  · exact List.length_eraseIdx_le _ _
  · exact Nat.le_refl _
theorem putL_len (l : List α) (x : α) : (putL key l x).length ≤ l.length + 1 := by
  unfold putL
  split
  · rw [List.length_set]; omega
  · rw [List.length_append, List.length_cons, List.length_take, List.length_drop]; omega
end
theorem jobAt_mem_s {l : List JobD} (hs : Sorted JobD.name l) {x : JobD} (hx : x ∈ l) : jobAt l x.name = some x := by
  unfold jobAt
  cases h : l.find? fun j => decide (j.name = x.name) with
  | none => have h' := List.find?_eq_none.1 h x hx; simp at h'
  | some y => rw [sorted_uniq hs (List.mem_of_find?_eq_some h) hx (by simpa using List.find?_some h)]
theorem nodeAt_mem_s {l : List NodeD} (hs : Sorted NodeD.name l) {x : NodeD} (hx : x ∈ l) : nodeAt l x.name = some x := by
  unfold nodeAt
  cases h : l.find? fun j => decide (j.name = x.name) with
  | none => have h' := List.find?_eq_none.1 h x hx; simp at h'
  | some y => rw [sorted_uniq hs (List.mem_of_find?_eq_some h) hx (by simpa using List.find?_some h)]
theorem jobAt_some {l : List JobD} {nm : ByteArray} {j : JobD} (h : jobAt l nm = some j) : j ∈ l ∧ j.name = nm := by
  unfold jobAt at h
  exact ⟨List.mem_of_find?_eq_some h, by simpa using List.find?_some h⟩
theorem nodeAt_some {l : List NodeD} {nm : ByteArray} {j : NodeD} (h : nodeAt l nm = some j) : j ∈ l ∧ j.name = nm := by
  unfold nodeAt at h
  exact ⟨List.mem_of_find?_eq_some h, by simpa using List.find?_some h⟩
theorem leaseE_is {s : St} (h : Fine s) {l : LeaseD} (hl : l ∈ s.leases) : (∃ j ∈ s.jobs, j.name = l.job) ∧ (∃ n ∈ s.nodes, n.name = l.node) ∧ 0 ≤ l.till ∧ l.till ≤ 1099511627776 := by
  have := h.l l hl
  unfold leaseE at this
  cases h1 : jobAt s.jobs l.job with
  | none => rw [h1] at this; simp at this
  | some j =>
    cases h2 : nodeAt s.nodes l.node with
    | none => rw [h1, h2] at this; simp at this
    | some n =>
      rw [h1, h2] at this
      simp only [Option.isSome_some, Bool.and_self, if_true] at this
      cases h3 : withinB l.till 0 1099511627776
      · rw [h3] at this; simp at this
      · exact ⟨⟨j, jobAt_some h1⟩, ⟨n, nodeAt_some h2⟩, withinB_iff.1 h3⟩
theorem leaseE_of {jobs : List JobD} {nodes : List NodeD} {l : LeaseD} (h1 : ∃ j ∈ jobs, j.name = l.job) (h2 : ∃ n ∈ nodes, n.name = l.node) (h3 : 0 ≤ l.till ∧ l.till ≤ 1099511627776) : leaseE jobs nodes l = 0 := by
  unfold leaseE
  have a1 : (jobAt jobs l.job).isSome = true := by
    obtain ⟨j, hj, he⟩ := h1
    unfold jobAt
    rw [List.find?_isSome]
    exact ⟨j, hj, decide_eq_true he⟩
  have a2 : (nodeAt nodes l.node).isSome = true := by
    obtain ⟨j, hj, he⟩ := h2
    unfold nodeAt
    rw [List.find?_isSome]
    exact ⟨j, hj, decide_eq_true he⟩
  rw [a1, a2, withinB_iff.2 h3]
  rfl
theorem needOf_bd_s {s : St} (h : Fine s) (nm : ByteArray) : 0 ≤ needOf s.jobs nm := by
  unfold needOf
  cases hj : jobAt s.jobs nm with
  | none => exact Int.le_refl _
  | some j => exact (jobE_iff.1 (h.j j (jobAt_some hj).1)).2.2.1.1
theorem needOf_sub {s : St} (h : Fine s) {jobs : List JobD} (hs : Sorted JobD.name jobs) (hm : ∀ x ∈ jobs, x ∈ s.jobs) (nm : ByteArray) : needOf jobs nm ≤ needOf s.jobs nm := by
  unfold needOf
  cases hj : jobAt jobs nm with
  | none => exact needOf_bd_s h nm
  | some j =>
    obtain ⟨h1, rfl⟩ := jobAt_some hj
    rw [jobAt_mem_s h.sj (hm j h1)]
    exact Int.le_refl _
theorem usedBy_sub_s {jobs : List JobD} (hn : ∀ nm, 0 ≤ needOf jobs nm) (nm : ByteArray) {a b : List LeaseD} (h : a.Sublist b) : usedBy jobs nm a ≤ usedBy jobs nm b := by
  induction h with
  | slnil => exact Int.le_refl _
  | cons x _ ih =>
    simp only [usedBy]
    have := hn x.job
    split <;> omega
  | cons_cons x _ ih =>
    simp only [usedBy]
    omega
theorem Fine.less {s t : St} (h : Fine s) (hr : t.rev = s.rev) (sj : Sorted JobD.name t.jobs) (jm : ∀ x ∈ t.jobs, x ∈ s.jobs) (nj : t.jobs.length ≤ s.jobs.length) (sn : Sorted NodeD.name t.nodes) (nm : ∀ x ∈ t.nodes, x ∈ s.nodes) (nn : t.nodes.length ≤ s.nodes.length)
    (ls : t.leases.Sublist s.leases) (lj : ∀ l ∈ t.leases, ∃ j ∈ t.jobs, j.name = l.job) (ln : ∀ l ∈ t.leases, ∃ n ∈ t.nodes, n.name = l.node) : Fine t where
  rev := hr ▸ h.rev
  nj := Nat.le_trans nj h.nj
  nl := Nat.le_trans ls.length_le h.nl
  nn := Nat.le_trans nn h.nn
  j := fun x hx => h.j x (jm x hx)
  sj := sj
  n := fun x hx => h.n x (nm x hx)
  sn := sn
  l := fun x hx => leaseE_of (lj x hx) (ln x hx) (leaseE_is h (ls.subset hx)).2.2
  sl := h.sl.sublist ls
  room := fun x hx => by
    have h1 := h.room x (nm x hx)
    have h2 := usedBy_mono (needOf_sub h sj jm) x.name t.leases
    have h3 := usedBy_sub_s (needOf_bd_s h) x.name ls
    omega
theorem Fine.at {s : St} (h : Fine s) {r : Int} (hr : 0 ≤ r ∧ r ≤ 1099511627776) : Fine { s with rev := r } := ⟨hr, h.nj, h.nl, h.nn, h.j, h.sj, h.n, h.sn, h.l, h.sl, h.room⟩
def SrvOk (v : Srv) : Prop := Fine v.st ∧ 0 ≤ v.now ∧ v.now ≤ 1099511627776
theorem filter_mem {α : Type} {p : α → Bool} {l : List α} {x : α} : x ∈ l.filter p ↔ x ∈ l ∧ p x = true := List.mem_filter
theorem reqE_ok {q : ReqD} (h : reqE q = 0) : (1 ≤ q.kind ∧ q.kind ≤ 9) ∧ wholeR q = q ∧ partE q = 0 := by
  unfold reqE at h
  by_cases h1 : 1 ≤ q.kind ∧ q.kind ≤ 9
  · rw [if_pos h1] at h
    by_cases h2 : wholeR q = q
    · rw [if_pos h2] at h; exact ⟨h1, h2, h⟩
    · rw [if_neg h2] at h; cases h
  · rw [if_neg h1] at h; cases h
theorem grantW_rev (s : St) (now : Int) (l : LeaseD) : (grantW s now l).1.rev = s.rev := by
  unfold grantW
  split
  · rfl
  · repeat (first | rfl | split)
theorem grantW_ok {s : St} {now : Int} {l : LeaseD} (h : (grantW s now l).2 = 0) : ∃ j, jobAt s.jobs l.job = some j ∧ hasL NodeD.name s.nodes l.node = true ∧ hasL LeaseD.job s.leases l.job = false ∧ now < l.till ∧ j.tries ≠ 100 ∧
    (grantW s now l).1 = { s with jobs := s.jobs.set (posL JobD.name s.jobs l.job) (grantJ j), leases := putL LeaseD.job s.leases l } ∧ checkE (grantW s now l).1 = 0 := by
  unfold grantW at h ⊢
  cases hj : jobAt s.jobs l.job with
  | none => rw [hj] at h; cases h
  | some j =>
    rw [hj] at h
    simp only at h ⊢
    cases h1 : hasL NodeD.name s.nodes l.node
    · rw [h1] at h; simp at h
    · cases h2 : hasL LeaseD.job s.leases l.job
      · rw [h1, h2] at h
        by_cases h3 : l.till ≤ now
        · simp [h3] at h
        · by_cases h4 : j.tries = 100
          · simp [h3, h4] at h
          · simp only [h3, h4, if_false, Bool.true_eq_false, Bool.false_eq_true] at h ⊢
            exact ⟨j, rfl, by first | rfl | trivial, by first | rfl | trivial, by omega, h4, rfl, h⟩
      · rw [h1, h2] at h; simp at h
theorem doW_rev (v : Srv) (q : ReqD) : (doW v q).1.st.rev = v.st.rev := by
  unfold doW
  simp only
  repeat (first | rfl | exact grantW_rev _ _ _ | split)
theorem doW_ok {v : Srv} {q : ReqD} (hv : SrvOk v) (hq : reqE q = 0) (h : (doW v q).2 = 0) : SrvOk (doW v q).1 ∧ v.now ≤ (doW v q).1.now := by
  obtain ⟨hf, hn⟩ := hv
  obtain ⟨hk, _, hp⟩ := reqE_ok hq
  unfold doW at h ⊢
  simp only at h ⊢
  split at h
  · rename_i c; rw [if_pos c]; exact ⟨⟨(fine_iff _).1 h, hn⟩, Int.le_refl _⟩
  rename_i c1; rw [if_neg c1]
  split at h
  · rename_i c; rw [if_pos c]; exact ⟨⟨(fine_iff _).1 h, hn⟩, Int.le_refl _⟩
  rename_i c2; rw [if_neg c2]
  split at h
  · rename_i c; rw [if_pos c]
    refine ⟨⟨hf.less rfl (takeL_sorted hf.sj _) (fun x hx => ((takeL_mem hf.sj _ x).1 hx).1) (takeL_len _ _) hf.sn (fun x hx => hx) (Nat.le_refl _) List.filter_sublist (fun l hl => ?_) (fun l hl => (leaseE_is hf (filter_mem.1 hl).1).2.1), hn⟩, Int.le_refl _⟩
    obtain ⟨h1, h2⟩ := filter_mem.1 hl
    obtain ⟨j, hj, he⟩ := (leaseE_is hf h1).1
    exact ⟨j, (takeL_mem hf.sj _ j).2 ⟨hj, by rw [he]; simpa using h2⟩, he⟩
  rename_i c3; rw [if_neg c3]
  split at h
  · rename_i c; rw [if_pos c]
    refine ⟨⟨hf.less rfl hf.sj (fun x hx => hx) (Nat.le_refl _) (takeL_sorted hf.sn _) (fun x hx => ((takeL_mem hf.sn _ x).1 hx).1) (takeL_len _ _) List.filter_sublist (fun l hl => (leaseE_is hf (filter_mem.1 hl).1).1) (fun l hl => ?_), hn⟩, Int.le_refl _⟩
    obtain ⟨h1, h2⟩ := filter_mem.1 hl
    obtain ⟨j, hj, he⟩ := (leaseE_is hf h1).2.1
    exact ⟨j, (takeL_mem hf.sn _ j).2 ⟨hj, by rw [he]; simpa using h2⟩, he⟩
  rename_i c4; rw [if_neg c4]
  split at h
  · rename_i c; rw [if_pos c]
    obtain ⟨j, _, _, _, _, _, _, hc⟩ := grantW_ok h
    exact ⟨⟨(fine_iff _).1 hc, hn⟩, Int.le_refl _⟩
  rename_i c5; rw [if_neg c5]
  split at h
  · rename_i c; rw [if_pos c]
    have hsub : (takeL LeaseD.job v.st.leases q.name).Sublist v.st.leases := by
      unfold takeL
      split
      · exact List.eraseIdx_sublist _ _
      · exact List.Sublist.refl _
    exact ⟨⟨hf.less rfl hf.sj (fun x hx => hx) (Nat.le_refl _) hf.sn (fun x hx => hx) (Nat.le_refl _) hsub (fun l hl => (leaseE_is hf (hsub.subset hl)).1) (fun l hl => (leaseE_is hf (hsub.subset hl)).2.1), hn⟩, Int.le_refl _⟩
  rename_i c6; rw [if_neg c6]
  split at h
  · rename_i c; rw [if_pos c]
    split at h
    · cases h
    · rename_i c'; rw [if_neg c']
      unfold partE at hp
      rw [if_neg c1, if_neg c2, if_neg c5, if_neg (by omega), if_pos c] at hp
      have hw : 0 ≤ q.n ∧ q.n ≤ 1099511627776 := by
        cases hw : withinB q.n 0 1099511627776
        · rw [hw] at hp; simp at hp
        · exact withinB_iff.1 hw
      simp only
      exact ⟨⟨hf.less rfl hf.sj (fun x hx => hx) (Nat.le_refl _) hf.sn (fun x hx => hx) (Nat.le_refl _) List.filter_sublist (fun l hl => (leaseE_is hf (filter_mem.1 hl).1).1) (fun l hl => (leaseE_is hf (filter_mem.1 hl).1).2.1), by show (0 : Int) ≤ v.now + q.n; omega, by show v.now + q.n ≤ 1099511627776; omega⟩, by show v.now ≤ v.now + q.n; omega⟩
  rename_i c7; rw [if_neg c7]
  exact ⟨⟨hf, hn⟩, Int.le_refl _⟩
theorem doN_ok {v : Srv} {q : ReqD} (hv : SrvOk v) (h : (doN v q).2 = 0) : reqE q = 0 ∧ doN v q = doW v q ∧ SrvOk (doN v q).1 ∧ v.now ≤ (doN v q).1.now ∧ (doN v q).1.st.rev = v.st.rev := by
  unfold doN at h ⊢
  by_cases hq : reqE q = 0
  · rw [if_pos hq] at h ⊢
    obtain ⟨h1, h2⟩ := doW_ok hv hq h
    exact ⟨hq, rfl, h1, h2, doW_rev _ _⟩
  · rw [if_neg hq] at h; exact absurd h hq
theorem sameT_iff {a b : St} : sameT a b = true ↔ a.jobs = b.jobs ∧ a.nodes = b.nodes ∧ a.leases = b.leases := by unfold sameT; rw [decide_eq_true_iff]
theorem doR_ways (v : Srv) (q : ReqD) :
    ((doN v q).2 = 0 ∧ sameT v.st (doN v q).1.st = false ∧ 1099511627776 < v.st.rev + 1 ∧ doR v q = ⟨2, none, v⟩) ∨
    ((doN v q).2 = 0 ∧ sameT v.st (doN v q).1.st = false ∧ v.st.rev + 1 ≤ 1099511627776 ∧ doR v q = ⟨0, some (betw v.st { (doN v q).1.st with rev := v.st.rev + 1 }), ⟨{ (doN v q).1.st with rev := v.st.rev + 1 }, (doN v q).1.now⟩⟩) ∨
    ((doN v q).2 = 0 ∧ sameT v.st (doN v q).1.st = true ∧ doR v q = ⟨0, none, ⟨v.st, (doN v q).1.now⟩⟩) ∨
    ((doN v q).2 ≠ 0 ∧ doR v q = ⟨(doN v q).2, none, v⟩) := by
  unfold doR
  simp only
  by_cases h : (doN v q).2 = 0
  · cases hs : sameT v.st (doN v q).1.st
    · by_cases hr : 1099511627776 < v.st.rev + 1
      · exact .inl ⟨h, rfl, hr, by rw [if_pos ⟨h, rfl⟩, if_pos hr]⟩
      · exact .inr (.inl ⟨h, rfl, by omega, by rw [if_pos ⟨h, rfl⟩, if_neg hr]⟩)
    · exact .inr (.inr (.inl ⟨h, rfl, by rw [if_neg (by simp), h, if_pos rfl]⟩))
  · exact .inr (.inr (.inr ⟨h, by rw [if_neg (by simp [h]), if_neg h]⟩))
theorem doR_ok {v : Srv} (hv : SrvOk v) (q : ReqD) : SrvOk (doR v q).srv ∧ v.st.rev ≤ (doR v q).srv.st.rev ∧ (doR v q).srv.st.rev ≤ v.st.rev + 1 ∧ v.now ≤ (doR v q).srv.now := by
  have h0 := hv.1.rev
  rcases doR_ways v q with ⟨_, _, _, he⟩ | ⟨h1, _, h3, he⟩ | ⟨h1, h2, he⟩ | ⟨_, he⟩ <;> rw [he] <;> simp only
  · exact ⟨hv, Int.le_refl _, by omega, Int.le_refl _⟩
  · obtain ⟨_, _, ⟨a, b⟩, c, d⟩ := doN_ok hv h1
    exact ⟨⟨a.at ⟨by omega, h3⟩, b⟩, by omega, Int.le_refl _, c⟩
  · obtain ⟨_, _, ⟨a, b⟩, c, d⟩ := doN_ok hv h1
    exact ⟨⟨hv.1, b⟩, Int.le_refl _, by omega, c⟩
  · exact ⟨hv, Int.le_refl _, by omega, Int.le_refl _⟩
theorem doR_refused {v : Srv} {q : ReqD} (h : (doR v q).code ≠ 0) : (doR v q).told = none ∧ (doR v q).srv = v := by
  rcases doR_ways v q with ⟨_, _, _, he⟩ | ⟨h1, _, h3, he⟩ | ⟨h1, h2, he⟩ | ⟨_, he⟩ <;> rw [he] at h ⊢ <;> simp only at h ⊢ <;> simp at h ⊢
theorem doW_asks {v : Srv} {q : ReqD} (h : q.kind = 8 ∨ q.kind = 9) : doW v q = (v, 0) := by
  unfold doW
  simp only
  rw [if_neg (by omega), if_neg (by omega), if_neg (by omega), if_neg (by omega), if_neg (by omega), if_neg (by omega), if_neg (by omega)]
theorem sameT_self (s : St) : sameT s s = true := sameT_iff.2 ⟨rfl, rfl, rfl⟩
theorem doR_asks {v : Srv} {q : ReqD} (h : q.kind = 8 ∨ q.kind = 9) : (doR v q).told = none ∧ (doR v q).srv = v := by
  by_cases hc : (doR v q).code = 0
  · have hN : (doN v q).2 = 0 → doN v q = (v, 0) := fun h' => by
      unfold doN at h' ⊢
      by_cases hq : reqE q = 0
      · rw [if_pos hq]; exact doW_asks h
      · rw [if_neg hq] at h'; exact absurd h' hq
    rcases doR_ways v q with ⟨h1, h2, _, he⟩ | ⟨h1, h2, h3, he⟩ | ⟨h1, h2, he⟩ | ⟨h1, he⟩
    · rw [hN h1, sameT_self] at h2; cases h2
    · rw [hN h1, sameT_self] at h2; cases h2
    · rw [he, hN h1]; exact ⟨rfl, rfl⟩
    · rw [he] at hc; exact absurd hc h1
  · exact doR_refused hc
theorem doR_done {v : Srv} {q : ReqD} (h : (doR v q).code = 0) : (doN v q).2 = 0 ∧ (doR v q).srv.st.jobs = (doN v q).1.st.jobs ∧ (doR v q).srv.st.nodes = (doN v q).1.st.nodes ∧ (doR v q).srv.st.leases = (doN v q).1.st.leases ∧ (doR v q).srv.now = (doN v q).1.now := by
  rcases doR_ways v q with ⟨h1, _, _, he⟩ | ⟨h1, _, h3, he⟩ | ⟨h1, h2, he⟩ | ⟨h1, he⟩
  · rw [he] at h; cases h
  · rw [he]; exact ⟨h1, rfl, rfl, rfl, rfl⟩
  · rw [he]
    obtain ⟨a, b, c⟩ := sameT_iff.1 h2
    exact ⟨h1, a, b, c, rfl⟩
  · rw [he] at h; exact absurd h h1
theorem doN_is {v : Srv} {q : ReqD} (h : (doN v q).2 = 0) : reqE q = 0 ∧ doN v q = doW v q := by
  unfold doN at h ⊢
  by_cases hq : reqE q = 0
  · rw [if_pos hq]; exact ⟨hq, rfl⟩
  · rw [if_neg hq] at h; exact absurd h hq
theorem doN_of {v : Srv} {q : ReqD} (h : reqE q = 0) : doN v q = doW v q := by unfold doN; rw [if_pos h]
theorem doR_same {v : Srv} {q : ReqD} (h : sameT v.st (doN v q).1.st = true) : (doR v q).told = none ∧ (doR v q).srv.st = v.st := by
  rcases doR_ways v q with ⟨_, h2, _, he⟩ | ⟨_, h2, _, he⟩ | ⟨_, _, he⟩ | ⟨_, he⟩
  · rw [h] at h2; cases h2
  · rw [h] at h2; cases h2
  · rw [he]; exact ⟨rfl, rfl⟩
  · rw [he]; exact ⟨rfl, rfl⟩
theorem doR_code {v : Srv} {q : ReqD} (h : (doN v q).2 = 0) : (doR v q).code = 0 ∨ ((doR v q).code = 2 ∧ 1099511627776 < v.st.rev + 1) := by
  rcases doR_ways v q with ⟨_, _, h3, he⟩ | ⟨_, h2, _, he⟩ | ⟨_, _, he⟩ | ⟨h1, he⟩
  · rw [he]; exact .inr ⟨rfl, h3⟩
  · rw [he]; exact .inl rfl
  · rw [he]; exact .inl rfl
  · exact absurd h h1
theorem doR_bad {v : Srv} {q : ReqD} (h : (doN v q).2 ≠ 0) : (doR v q).code = (doN v q).2 := by
  rcases doR_ways v q with ⟨h1, _, h3, he⟩ | ⟨h1, h2, _, he⟩ | ⟨h1, _, he⟩ | ⟨h1, he⟩
  · exact absurd h1 h
  · exact absurd h1 h
  · exact absurd h1 h
  · rw [he]
theorem doR_tells {v : Srv} {q : ReqD} (h : (doR v q).code = 0) (hs : sameT v.st (doN v q).1.st = false) : (doR v q).told = some (betw v.st (doR v q).srv.st) ∧ (doR v q).srv.st.rev = v.st.rev + 1 ∧ v.st.rev + 1 ≤ 1099511627776 := by
  rcases doR_ways v q with ⟨h1, _, h3, he⟩ | ⟨h1, h2, h3, he⟩ | ⟨h1, h2, he⟩ | ⟨h1, he⟩
  · rw [he] at h; cases h
  · rw [he]; exact ⟨rfl, rfl, h3⟩
  · rw [hs] at h2; cases h2
  · rw [he] at h; exact absurd h h1
theorem doR_told {v : Srv} {q : ReqD} (hv : SrvOk v) {d : DeltaD} (h : (doR v q).told = some d) : (doR v q).code = 0 ∧ d = betw v.st (doR v q).srv.st ∧ v.st.rev < (doR v q).srv.st.rev := by
  rcases doR_ways v q with ⟨h1, _, h3, he⟩ | ⟨h1, h2, h3, he⟩ | ⟨h1, h2, he⟩ | ⟨h1, he⟩ <;> rw [he] at h ⊢
  · cases h
  · simp only at h ⊢
    exact ⟨trivial, by injection h with h; exact h.symm, by omega⟩
  · cases h
  · cases h
theorem doR_quiet {v : Srv} {q : ReqD} (h : (doR v q).told = none) : (doR v q).srv.st = v.st := by
  rcases doR_ways v q with ⟨h1, _, h3, he⟩ | ⟨h1, h2, h3, he⟩ | ⟨h1, h2, he⟩ | ⟨h1, he⟩ <;> rw [he] at h ⊢
  cases h
def qPut (j : JobD) : ReqD := ⟨1, j, noN, noL, ByteArray.empty, 0⟩
def qDel (nm : ByteArray) : ReqD := ⟨3, noJ, noN, noL, nm, 0⟩
def qGrant (l : LeaseD) : ReqD := ⟨5, noJ, noN, l, ByteArray.empty, 0⟩
def qFree (nm : ByteArray) : ReqD := ⟨6, noJ, noN, noL, nm, 0⟩
def qTick (n : Int) : ReqD := ⟨7, noJ, noN, noL, ByteArray.empty, n⟩
theorem reqE_put (j : JobD) : reqE (qPut j) = jobE j := by
  unfold reqE
  have hw : wholeR (qPut j) = qPut j := rfl
  rw [if_pos (by simp [qPut]), if_pos hw]
  rfl
theorem reqE_del (nm : ByteArray) : reqE (qDel nm) = if nameOk nm = true then 0 else 4 := by
  unfold reqE
  have hw : wholeR (qDel nm) = qDel nm := rfl
  rw [if_pos (by simp [qDel]), if_pos hw]
  rfl
theorem reqE_grant (l : LeaseD) : reqE (qGrant l) = leaseC l := by
  unfold reqE
  have hw : wholeR (qGrant l) = qGrant l := rfl
  rw [if_pos (by simp [qGrant]), if_pos hw]
  rfl
theorem reqE_free (nm : ByteArray) : reqE (qFree nm) = if nameOk nm = true then 0 else 4 := by
  unfold reqE
  have hw : wholeR (qFree nm) = qFree nm := rfl
  rw [if_pos (by simp [qFree]), if_pos hw]
  rfl
theorem reqE_tick (n : Int) : reqE (qTick n) = if withinB n 0 1099511627776 = true then 0 else 1 := by
  unfold reqE
  have hw : wholeR (qTick n) = qTick n := rfl
  rw [if_pos (by simp [qTick]), if_pos hw]
  rfl
theorem doW_put (v : Srv) (j : JobD) : doW v (qPut j) = (⟨{ v.st with jobs := putL JobD.name v.st.jobs j }, v.now⟩, checkE { v.st with jobs := putL JobD.name v.st.jobs j }) := rfl
theorem doW_del (v : Srv) (nm : ByteArray) : doW v (qDel nm) = (⟨{ v.st with jobs := takeL JobD.name v.st.jobs nm, leases := v.st.leases.filter fun l => !decide (l.job = nm) }, v.now⟩, if hasL JobD.name v.st.jobs nm = true then 0 else 6) := rfl
theorem doW_grant (v : Srv) (l : LeaseD) : doW v (qGrant l) = (⟨(grantW v.st v.now l).1, v.now⟩, (grantW v.st v.now l).2) := rfl
theorem doW_free (v : Srv) (nm : ByteArray) : doW v (qFree nm) = (⟨{ v.st with leases := takeL LeaseD.job v.st.leases nm }, v.now⟩, if hasL LeaseD.job v.st.leases nm = true then 0 else 6) := rfl
theorem doW_tick (v : Srv) (n : Int) : doW v (qTick n) = if 1099511627776 - v.now < n then (v, 1) else (⟨{ v.st with leases := v.st.leases.filter fun l => !decide (l.till ≤ v.now + n) }, v.now + n⟩, 0) := rfl
theorem tick_done {v : Srv} {n : Int} (h : (doR v (qTick n)).code = 0) : (doR v (qTick n)).srv.now = v.now + n ∧ (doR v (qTick n)).srv.st.jobs = v.st.jobs ∧ (doR v (qTick n)).srv.st.nodes = v.st.nodes ∧ (doR v (qTick n)).srv.st.leases = v.st.leases.filter fun l => !decide (l.till ≤ v.now + n) := by
  obtain ⟨h0, h1, h2, h3, h4⟩ := doR_done h
  obtain ⟨hq, hd⟩ := doN_is h0
  rw [hd] at h0 h1 h2 h3 h4
  rw [doW_tick] at h0 h1 h2 h3 h4
  by_cases hc : 1099511627776 - v.now < n
  · rw [if_pos hc] at h0; cases h0
  · rw [if_neg hc] at h1 h2 h3 h4
    exact ⟨h4, h1, h2, h3⟩
theorem tick_late {v : Srv} {n : Int} (h : (doR v (qTick n)).code = 0) : ∀ l ∈ (doR v (qTick n)).srv.st.leases, (doR v (qTick n)).srv.now < l.till := by
  obtain ⟨h1, _, _, h4⟩ := tick_done h
  intro l hl
  rw [h4] at hl
  have := (List.mem_filter.1 hl).2
  rw [h1]
  simp only [Bool.not_eq_true', decide_eq_false_iff_not] at this
  omega
theorem tick_code {v : Srv} {n : Int} (hn : 0 ≤ n ∧ n ≤ 1000) (hv : v.now ≤ 1000000) : (doR v (qTick n)).code = 0 ∨ 1099511627776 < v.st.rev + 1 := by
  have hq : reqE (qTick n) = 0 := by rw [reqE_tick, if_pos (withinB_iff.2 ⟨hn.1, by omega⟩)]
  have h0 : (doN v (qTick n)).2 = 0 := by rw [doN_of hq, doW_tick, if_neg (by omega)]
  rcases doR_code h0 with h | h
  · exact .inl h
  · exact .inr h.2
theorem two_ticks {s : St} {a b : Int} (ha : 0 ≤ a ∧ a ≤ 1000) (hb : 0 ≤ b ∧ b ≤ 1000) (hs : Fine s) :
    if (doR ⟨s, 0⟩ (qTick a)).code = 0 ∧ (doR (doR ⟨s, 0⟩ (qTick a)).srv (qTick b)).code = 0 ∧ (doR ⟨s, 0⟩ (qTick (a + b))).code = 0 then
      (doR (doR ⟨s, 0⟩ (qTick a)).srv (qTick b)).srv.now = a + b ∧ (doR ⟨s, 0⟩ (qTick (a + b))).srv.now = a + b ∧ sameT (doR (doR ⟨s, 0⟩ (qTick a)).srv (qTick b)).srv.st (doR ⟨s, 0⟩ (qTick (a + b))).srv.st = true
    else 1099511627773 < s.rev := by
  have hv : SrvOk ⟨s, 0⟩ := ⟨hs, Int.le_refl _, (by decide : (0 : Int) ≤ 1099511627776)⟩
  have k1 := doR_ok hv (qTick a)
  split
  · rename_i h
    obtain ⟨h1, h2, h3⟩ := h
    obtain ⟨a1, a2, a3, a4⟩ := tick_done h1
    obtain ⟨b1, b2, b3, b4⟩ := tick_done h2
    obtain ⟨c1, c2, c3, c4⟩ := tick_done h3
    simp only at a1 c1
    refine ⟨by rw [b1, a1]; omega, by rw [c1]; omega, sameT_iff.2 ⟨by rw [b2, a2, c2], by rw [b3, a3, c3], ?_⟩⟩
    rw [b4, a4, c4, a1, List.filter_filter]
    congr 1
    funext l
    simp only
    by_cases h5 : l.till ≤ a + b
    · have : l.till ≤ 0 + (a + b) := by omega
      have : l.till ≤ 0 + a + b := by omega
      simp [*]
    · have h6 : ¬ l.till ≤ 0 + (a + b) := by omega
      have h7 : ¬ l.till ≤ 0 + a + b := by omega
      have h8 : ¬ l.till ≤ 0 + a := by omega
      simp only [h6, h7, h8, decide_false, Bool.not_false, Bool.and_self]
  · rename_i h
    rcases tick_code (v := ⟨s, 0⟩) ha (by simp) with h1 | h1
    · obtain ⟨a1, _⟩ := tick_done h1
      rcases tick_code (v := (doR ⟨s, 0⟩ (qTick a)).srv) hb (by rw [a1]; simp only; omega) with h2 | h2
      · have h3 : ¬ (doR ⟨s, 0⟩ (qTick (a + b))).code = 0 := fun h3 => h ⟨h1, h2, h3⟩
        have hq : reqE (qTick (a + b)) = 0 := by rw [reqE_tick, if_pos (withinB_iff.2 ⟨by omega, by omega⟩)]
        have h0 : (doN ⟨s, 0⟩ (qTick (a + b))).2 = 0 := by rw [doN_of hq, doW_tick, if_neg (by simp only; omega)]
        rcases doR_code h0 with h4 | h4
        · exact absurd h4 h3
        · have := h4.2; simp only at this; omega
      · have := k1.2.2.1; simp only at this; omega
    · simp only at h1; omega
theorem put_done {v : Srv} {j : JobD} (h : (doR v (qPut j)).code = 0) : jobE j = 0 ∧ (doR v (qPut j)).srv.now = v.now ∧ (doR v (qPut j)).srv.st.jobs = putL JobD.name v.st.jobs j ∧ (doR v (qPut j)).srv.st.nodes = v.st.nodes ∧ (doR v (qPut j)).srv.st.leases = v.st.leases := by
  obtain ⟨h0, h1, h2, h3, h4⟩ := doR_done h
  obtain ⟨hq, hd⟩ := doN_is h0
  rw [hd, doW_put] at h1 h2 h3 h4
  rw [reqE_put] at hq
  exact ⟨hq, h4, h1, h2, h3⟩
theorem putL_twice {α : Type} {key : α → ByteArray} {l : List α} (hs : Sorted key l) (x : α) : putL key (putL key l x) x = putL key l x :=
  sorted_ext (putL_sorted (putL_sorted hs x) x) (putL_sorted hs x) fun z => by
    rw [putL_mem (putL_sorted hs x), putL_mem hs]
    constructor
    · rintro (h | ⟨h, _⟩)
      · exact .inl h
      · exact h
    · rintro (h | ⟨h1, h2⟩)
      · exact .inl h
      · exact .inr ⟨.inr ⟨h1, h2⟩, h2⟩
theorem putL_swap {α : Type} {key : α → ByteArray} {l : List α} (hs : Sorted key l) {x y : α} (hne : key x ≠ key y) : putL key (putL key l x) y = putL key (putL key l y) x :=
  sorted_ext (putL_sorted (putL_sorted hs x) y) (putL_sorted (putL_sorted hs y) x) fun z => by
    rw [putL_mem (putL_sorted hs x), putL_mem hs, putL_mem (putL_sorted hs y), putL_mem hs]
    constructor
    · rintro (rfl | ⟨rfl | ⟨h1, h2⟩, h3⟩)
      · exact .inr ⟨.inl rfl, Ne.symm hne⟩
      · exact .inl rfl
      · exact .inr ⟨.inr ⟨h1, h3⟩, h2⟩
    · rintro (rfl | ⟨rfl | ⟨h1, h2⟩, h3⟩)
      · exact .inr ⟨.inl rfl, hne⟩
      · exact .inl rfl
      · exact .inr ⟨.inr ⟨h1, h3⟩, h2⟩
theorem putL_is {α : Type} {key : α → ByteArray} {l : List α} (hs : Sorted key l) {x : α} : putL key l x = l ↔ x ∈ l := by
  constructor
  · intro h
    rw [← h, putL_mem hs]
    exact .inl rfl
  · intro h
    refine sorted_ext (putL_sorted hs x) hs fun z => ?_
    rw [putL_mem hs]
    constructor
    · rintro (rfl | h1)
      · exact h
      · exact h1.1
    · intro hz
      by_cases hk : key z = key x
      · exact .inl (sorted_uniq hs hz h hk)
      · exact .inr ⟨hz, hk⟩
theorem put_again {v : Srv} (hv : SrvOk v) {j : JobD} (h : (doR v (qPut j)).code = 0) : (doR (doR v (qPut j)).srv (qPut j)).told = none ∧ (doR (doR v (qPut j)).srv (qPut j)).srv = (doR v (qPut j)).srv := by
  obtain ⟨hj, h1, h2, h3, h4⟩ := put_done h
  generalize (doR v (qPut j)).srv = u at *
  have hN : doN u (qPut j) = doW u (qPut j) := doN_of (by rw [reqE_put]; exact hj)
  have hsame : sameT u.st (doN u (qPut j)).1.st = true := by
    rw [hN, doW_put]
    refine sameT_iff.2 ⟨?_, rfl, rfl⟩
    show u.st.jobs = putL JobD.name u.st.jobs j
    rw [h2, putL_twice hv.1.sj]
  rcases doR_ways u (qPut j) with ⟨_, hs, _, _⟩ | ⟨_, hs, _, _⟩ | ⟨_, _, he⟩ | ⟨_, he⟩
  · rw [hsame] at hs; cases hs
  · rw [hsame] at hs; cases hs
  · rw [he, hN, doW_put]; exact ⟨rfl, rfl⟩
  · rw [he]; exact ⟨rfl, rfl⟩
theorem del_done {v : Srv} {nm : ByteArray} (h : (doR v (qDel nm)).code = 0) : (doR v (qDel nm)).srv.now = v.now ∧ (doR v (qDel nm)).srv.st.jobs = takeL JobD.name v.st.jobs nm ∧ (doR v (qDel nm)).srv.st.nodes = v.st.nodes ∧ (doR v (qDel nm)).srv.st.leases = v.st.leases.filter fun l => !decide (l.job = nm) := by
  obtain ⟨h0, h1, h2, h3, h4⟩ := doR_done h
  obtain ⟨hq, hd⟩ := doN_is h0
  rw [hd, doW_del] at h1 h2 h3 h4
  exact ⟨h4, h1, h2, h3⟩
theorem put_del {v : Srv} (hv : SrvOk v) {j : JobD} (h : (doR v (qPut j)).code = 0) :
    let u := (doR v (qPut j)).srv
    let x := doR u (qDel j.name)
    x.code = 2 ∨ (x.code = 0 ∧ x.told ≠ none ∧ (doR x.srv (qDel j.name)).code = 6 ∧ (doR x.srv (qDel j.name)).srv = x.srv ∧ (∀ y ∈ x.srv.st.jobs, y.name ≠ j.name) ∧ ∀ l ∈ x.srv.st.leases, l.job ≠ j.name) := by
  intro u x
  obtain ⟨hj, h1, h2, h3, h4⟩ := put_done h
  have hu : SrvOk u := (doR_ok hv _).1
  have hmem : j ∈ u.st.jobs := by
    show j ∈ (doR v (qPut j)).srv.st.jobs
    rw [h2, putL_mem hv.1.sj]; exact .inl rfl
  have hq : reqE (qDel j.name) = 0 := by rw [reqE_del, if_pos (jobE_name hj)]
  have hN : doN u (qDel j.name) = doW u (qDel j.name) := doN_of hq
  have hh : hasL JobD.name u.st.jobs j.name = true := has_iff.2 ⟨j, hmem, rfl⟩
  have hc : (doN u (qDel j.name)).2 = 0 := by rw [hN, doW_del, hh]; rfl
  rcases doR_code hc with hx | hx
  · right
    have hx' : x.code = 0 := hx
    obtain ⟨d1, d2, d3, d4⟩ := del_done hx
    have hns : sameT u.st (doN u (qDel j.name)).1.st = false := by
      cases hs : sameT u.st (doN u (qDel j.name)).1.st
      · rfl
      · rw [hN, doW_del] at hs
        have := (sameT_iff.1 hs).1
        simp only at this
        rw [this] at hmem
        exact absurd rfl ((takeL_mem hu.1.sj _ _).1 hmem).2
    obtain ⟨t1, _, _⟩ := doR_tells hx hns
    have hno : ∀ y ∈ x.srv.st.jobs, y.name ≠ j.name := fun y hy => by
      have hy' : y ∈ (doR u (qDel j.name)).srv.st.jobs := hy
      rw [d2] at hy'
      exact ((takeL_mem hu.1.sj _ _).1 hy').2
    have hN2 : doN x.srv (qDel j.name) = doW x.srv (qDel j.name) := doN_of hq
    have hc2 : (doN x.srv (qDel j.name)).2 = 6 := by
      rw [hN2, doW_del, has_not.2 hno]; rfl
    refine ⟨hx', ?_, ?_, ?_, hno, fun l hl => ?_⟩
    · show (doR u (qDel j.name)).told ≠ none
      rw [t1]; simp
    · rw [doR_bad (by rw [hc2]; decide), hc2]
    · exact (doR_refused (by rw [doR_bad (by rw [hc2]; decide), hc2]; decide)).2
    · have hl' : l ∈ (doR u (qDel j.name)).srv.st.leases := hl
      rw [d4] at hl'
      simpa using (List.mem_filter.1 hl').2
  · exact .inl hx.1
theorem put_rev {v : Srv} (hv : SrvOk v) {j : JobD} (h : (doR v (qPut j)).code = 0) : (doR v (qPut j)).srv.st.rev = v.st.rev + if j ∈ v.st.jobs then 0 else 1 := by
  obtain ⟨h0, _⟩ := doR_done h
  obtain ⟨hq, hd⟩ := doN_is h0
  by_cases hm : j ∈ v.st.jobs
  · rw [if_pos hm]
    have : sameT v.st (doN v (qPut j)).1.st = true := by
      rw [hd, doW_put]
      exact sameT_iff.2 ⟨((putL_is hv.1.sj).2 hm).symm, rfl, rfl⟩
    rw [(doR_same this).2]; omega
  · rw [if_neg hm]
    have : sameT v.st (doN v (qPut j)).1.st = false := by
      cases hs : sameT v.st (doN v (qPut j)).1.st
      · rfl
      · rw [hd, doW_put] at hs
        exact absurd ((putL_is hv.1.sj).1 (sameT_iff.1 hs).1.symm) hm
    exact (doR_tells h this).2.1
theorem two_puts {s : St} (hs : Fine s) {j k : JobD} (hne : j.name ≠ k.name) (h1 : (doR ⟨s, 0⟩ (qPut j)).code = 0) (h2 : (doR (doR ⟨s, 0⟩ (qPut j)).srv (qPut k)).code = 0) (h3 : (doR ⟨s, 0⟩ (qPut k)).code = 0) (h4 : (doR (doR ⟨s, 0⟩ (qPut k)).srv (qPut j)).code = 0) :
    (doR (doR ⟨s, 0⟩ (qPut j)).srv (qPut k)).srv.st = (doR (doR ⟨s, 0⟩ (qPut k)).srv (qPut j)).srv.st := by
  have hv : SrvOk ⟨s, 0⟩ := ⟨hs, Int.le_refl _, (by decide : (0 : Int) ≤ 1099511627776)⟩
  have hv1 := (doR_ok hv (qPut j)).1
  have hv3 := (doR_ok hv (qPut k)).1
  obtain ⟨_, _, a1, a2, a3⟩ := put_done h1
  obtain ⟨_, _, b1, b2, b3⟩ := put_done h2
  obtain ⟨_, _, c1, c2, c3⟩ := put_done h3
  obtain ⟨_, _, d1, d2, d3⟩ := put_done h4
  have r1 := put_rev hv h1
  have r2 := put_rev hv1 h2
  have r3 := put_rev hv h3
  have r4 := put_rev hv3 h4
  simp only at a1 a2 a3 c1 c2 c3 r1 r3
  have hk : k ∈ (doR ⟨s, 0⟩ (qPut j)).srv.st.jobs ↔ k ∈ s.jobs := by
    rw [a1, putL_mem hs.sj]
    exact ⟨fun h => h.elim (fun e => absurd (congrArg JobD.name e).symm hne) (·.1), fun h => .inr ⟨h, Ne.symm hne⟩⟩
  have hj : j ∈ (doR ⟨s, 0⟩ (qPut k)).srv.st.jobs ↔ j ∈ s.jobs := by
    rw [c1, putL_mem hs.sj]
    exact ⟨fun h => h.elim (fun e => absurd (congrArg JobD.name e) hne) (·.1), fun h => .inr ⟨h, hne⟩⟩
  have er : (doR (doR ⟨s, 0⟩ (qPut j)).srv (qPut k)).srv.st.rev = (doR (doR ⟨s, 0⟩ (qPut k)).srv (qPut j)).srv.st.rev := by
    rw [r2, r1, r4, r3]
    by_cases e1 : k ∈ s.jobs <;> by_cases e2 : j ∈ s.jobs <;> simp only [hk, hj, e1, e2, if_true, if_false] <;> omega
  have ej : (doR (doR ⟨s, 0⟩ (qPut j)).srv (qPut k)).srv.st.jobs = (doR (doR ⟨s, 0⟩ (qPut k)).srv (qPut j)).srv.st.jobs := by rw [b1, a1, d1, c1, putL_swap hs.sj hne]
  have en : (doR (doR ⟨s, 0⟩ (qPut j)).srv (qPut k)).srv.st.nodes = (doR (doR ⟨s, 0⟩ (qPut k)).srv (qPut j)).srv.st.nodes := by rw [b2, a2, d2, c2]
  have el : (doR (doR ⟨s, 0⟩ (qPut j)).srv (qPut k)).srv.st.leases = (doR (doR ⟨s, 0⟩ (qPut k)).srv (qPut j)).srv.st.leases := by rw [b3, a3, d3, c3]
  generalize (doR (doR ⟨s, 0⟩ (qPut j)).srv (qPut k)).srv.st = t at *
  generalize (doR (doR ⟨s, 0⟩ (qPut k)).srv (qPut j)).srv.st = u at *
  obtain ⟨_, _, _, _⟩ := t
  obtain ⟨_, _, _, _⟩ := u
  simp only at er ej en el
  subst er ej en el
  rfl
theorem grant_twice {v : Srv} (hv : SrvOk v) {l : LeaseD} (h : (doR v (qGrant l)).code = 0) :
    let u := (doR v (qGrant l)).srv
    (∃ j, jobAt v.st.jobs l.job = some j ∧ v.st.jobs[posL JobD.name v.st.jobs l.job]? = some j ∧ u.st.jobs = v.st.jobs.set (posL JobD.name v.st.jobs l.job) (grantJ j)) ∧ (∀ x ∈ v.st.leases, x.job ≠ l.job) ∧ l ∈ u.st.leases ∧ (doR u (qGrant l)).code = 7 ∧ (doR u (qGrant l)).srv = u ∧
    ((doR u (qFree l.job)).code = 2 ∨ ((doR u (qFree l.job)).code = 0 ∧ (doR (doR u (qFree l.job)).srv (qFree l.job)).code = 6)) := by
  intro u
  obtain ⟨h0, h1, h2, h3, h4⟩ := doR_done h
  obtain ⟨hq, hd⟩ := doN_is h0
  rw [hd, doW_grant] at h0 h1 h2 h3 h4
  simp only at h0 h1 h2 h3 h4
  obtain ⟨j, g1, g2, g3, g4, g5, g6, g7⟩ := grantW_ok h0
  rw [g6] at h1 h2 h3
  simp only at h1 h2 h3
  obtain ⟨hjm, hjn⟩ := jobAt_some g1
  have hat : v.st.jobs[posL JobD.name v.st.jobs l.job]? = some j := by
    obtain ⟨x, hx, he⟩ := has_at hv.1.sj (has_iff.2 ⟨j, hjm, hjn⟩)
    rw [hx, sorted_uniq hv.1.sj (List.mem_of_getElem? hx) hjm (by rw [he, hjn])]
  have hu : SrvOk u := (doR_ok hv _).1
  have hlm : l ∈ u.st.leases := by
    show l ∈ (doR v (qGrant l)).srv.st.leases
    rw [h3, putL_mem hv.1.sl]; exact .inl rfl
  have hN : doN u (qGrant l) = doW u (qGrant l) := doN_of hq
  have hju : ∃ y, jobAt u.st.jobs l.job = some y := by
    have hs : u.st.jobs = v.st.jobs.set (posL JobD.name v.st.jobs l.job) (grantJ j) := h1
    have := jobAt_set_is l.job v.st.jobs _ j (grantJ j) hat rfl
    rw [← hs, g1] at this
    exact Option.isSome_iff_exists.1 (by rw [this]; rfl)
  have hnu : hasL NodeD.name u.st.nodes l.node = true := by
    show hasL NodeD.name (doR v (qGrant l)).srv.st.nodes l.node = true
    rw [h2]; exact g2
  have hc : (doN u (qGrant l)).2 = 7 := by
    obtain ⟨y, hy⟩ := hju
    rw [hN, doW_grant]
    simp only
    unfold grantW
    rw [hy, hnu, has_iff.2 ⟨l, hlm, rfl⟩]
    simp
  have hname : nameOk l.job = true := leaseC_name (by rw [reqE_grant] at hq; exact hq)
  have hqf : reqE (qFree l.job) = 0 := by rw [reqE_free, if_pos hname]
  have hNf : doN u (qFree l.job) = doW u (qFree l.job) := doN_of hqf
  have hcf : (doN u (qFree l.job)).2 = 0 := by rw [hNf, doW_free, has_iff.2 ⟨l, hlm, rfl⟩]; rfl
  refine ⟨⟨j, g1, hat, h1⟩, has_not.1 g3, hlm, by rw [doR_bad (by rw [hc]; decide), hc], (doR_refused (by rw [doR_bad (by rw [hc]; decide), hc]; decide)).2, ?_⟩
  rcases doR_code hcf with hx | hx
  · right
    refine ⟨hx, ?_⟩
    obtain ⟨_, _, _, f3, _⟩ := doR_done hx
    rw [hNf, doW_free] at f3
    simp only at f3
    have hno : ∀ y ∈ (doR u (qFree l.job)).srv.st.leases, y.job ≠ l.job := fun y hy => by
      rw [f3] at hy
      exact ((takeL_mem hu.1.sl _ _).1 hy).2
    have hc2 : (doN (doR u (qFree l.job)).srv (qFree l.job)).2 = 6 := by
      rw [doN_of hqf, doW_free, has_not.2 hno]; rfl
    rw [doR_bad (by rw [hc2]; decide), hc2]
  · exact .inl hx.1
end Go.Proofs.YtffddjdfpggglaaGreatDoor
