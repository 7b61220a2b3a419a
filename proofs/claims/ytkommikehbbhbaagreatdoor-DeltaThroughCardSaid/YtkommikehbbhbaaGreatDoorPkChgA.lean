/-
  Several texts in one: ChgP, ChgQ, ChgO, ChgJ, ChgN, ChgL.
-/
import Derived.Test.YtkommikehbbhbaaGreatDoorPkDelA
import Derived.Test.YtkommikehbbhbaaGreatDoorPkMapA
import Derived.Test.YtkommikehbbhbaaGreatDoorPkMapB
import Derived.Test.YtkommikehbbhbaaGreatDoorPkHeld
import Derived.Test.YtkommikehbbhbaaGreatDoorPkStrs
import Derived.Test.YtkommikehbbhbaaGreatDoorPkDelB
import Derived.Carry
/-
  Plain: rows that a delta has changed; the rows of the later state are just those.
-/
set_option linter.unusedVariables false
set_option linter.unusedSimpArgs false
namespace Go.Proofs.YtkommikehbbhbaaGreatDoor
section
variable {α : Type} {key : α → ByteArray}
theorem ltS_asymm {a b : ByteArray} (h : ltS a b = true) : ltS b a = false := by
  cases h2 : ltS b a
  · rfl
  · have := ltS_trans h h2
    rw [ltS_irrefl] at this; cases this
theorem sorted_uniq : ∀ {l : List α}, Sorted key l → ∀ {x y : α}, x ∈ l → y ∈ l → key x = key y → x = y
  | [], _, x, y, hx, _, _ => by cases hx
  | z :: r, h, x, y, hx, hy, he => by
    obtain ⟨h1, h2⟩ := List.pairwise_cons.1 h
    rcases List.mem_cons.1 hx with e1 | hx1
    · rcases List.mem_cons.1 hy with e2 | hy1
      · rw [e1, e2]
      · have := h1 y hy1; rw [← e1, he, ltS_irrefl] at this; cases this
    · rcases List.mem_cons.1 hy with e2 | hy1
      · have := h1 x hx1; rw [← e2, he, ltS_irrefl] at this; cases this
      · exact sorted_uniq h2 hx1 hy1 he
theorem sorted_ext : ∀ {a b : List α}, Sorted key a → Sorted key b → (∀ x, x ∈ a ↔ x ∈ b) → a = b
  | [], [], _, _, _ => rfl
  | [], y :: t, _, _, h => by have := (h y).2 List.mem_cons_self; cases this
  | x :: r, [], _, _, h => by have := (h x).1 List.mem_cons_self; cases this
  | x :: r, y :: t, ha, hb, h => by
    obtain ⟨a1, a2⟩ := List.pairwise_cons.1 ha
    obtain ⟨b1, b2⟩ := List.pairwise_cons.1 hb
    have hxy : x = y := by
      rcases List.mem_cons.1 ((h x).1 List.mem_cons_self) with e | hx
      · exact e
      · rcases List.mem_cons.1 ((h y).2 List.mem_cons_self) with e | hy
        · exact e.symm
        · have h1 := a1 y hy
          have h2 := b1 x hx
          rw [ltS_asymm h1] at h2; cases h2
    subst hxy
    congr 1
    refine sorted_ext a2 b2 fun z => ⟨fun hz => ?_, fun hz => ?_⟩
    · rcases List.mem_cons.1 ((h z).1 (List.mem_cons_of_mem _ hz)) with rfl | hz'
      · have := a1 z hz; rw [ltS_irrefl] at this; cases this
      · exact hz'
    · rcases List.mem_cons.1 ((h z).2 (List.mem_cons_of_mem _ hz)) with rfl | hz'
      · have := b1 z hz; rw [ltS_irrefl] at this; cases this
      · exact hz'
/-- What is there when the gone have gone and the set are set. -/
def IsChg (key : α → ByteArray) (rows set : List α) (gone : List ByteArray) (r : List α) : Prop :=
  Sorted key r ∧ ∀ x, x ∈ r ↔ (x ∈ set ∨ (x ∈ rows ∧ key x ∉ gone ∧ ∀ y ∈ set, key y ≠ key x))
/-- Whatever is to go is there. -/
def AllIn (key : α → ByteArray) (rows : List α) (gone : List ByteArray) : Prop := ∀ s ∈ gone, ∃ x ∈ rows, key x = s
theorem IsChg.uniq {rows set : List α} {gone : List ByteArray} {a b : List α} (h1 : IsChg key rows set gone a) (h2 : IsChg key rows set gone b) : a = b :=
  sorted_ext h1.1 h2.1 fun x => (h1.2 x).trans (h2.2 x).symm
def chgB (key : α → ByteArray) (rows : List α) (gone : List ByteArray) : Bool := gone.all fun s => rows.any fun x => decide (key x = s)
theorem chgB_iff {rows : List α} {gone : List ByteArray} : chgB key rows gone = true ↔ AllIn key rows gone := by
  unfold chgB AllIn
  rw [List.all_eq_true]
  constructor
  · intro h s hs
    obtain ⟨x, hx, he⟩ := List.any_eq_true.1 (h s hs)
    exact ⟨x, hx, of_decide_eq_true he⟩
  · intro h s hs
    obtain ⟨x, hx, he⟩ := h s hs
    exact List.any_eq_true.2 ⟨x, hx, decide_eq_true he⟩
def chgL (key : α → ByteArray) (rows set : List α) (gone : List ByteArray) : List α :=
  ((rows.filter fun x => !(gone.any fun s => decide (s = key x)) && !(set.any fun y => decide (key y = key x))) ++ set).mergeSort fun x y => !ltS (key y) (key x)
theorem keys_pw : ∀ {l : List α}, l.Pairwise (fun x y => ltS (key y) (key x) = false) → l.Pairwise (fun x y => key x ≠ key y) → Sorted key l := by
  intro l h1 h2
  exact (h1.and h2).imp fun {x y} h => by
    rcases ltS_total (key x) (key y) with h' | h' | h'
    · exact h'
    · exact absurd h' h.2
    · rw [h'] at h; exact absurd h.1 (by simp)
theorem chgL_is {rows set : List α} {gone : List ByteArray} (hr : Sorted key rows) (hs : Sorted key set) : IsChg key rows set gone (chgL key rows set gone) := by
  have hp := List.mergeSort_perm ((rows.filter fun x => !(gone.any fun s => decide (s = key x)) && !(set.any fun y => decide (key y = key x))) ++ set) (fun x y => !ltS (key y) (key x))
  constructor
  · refine keys_pw ?_ ?_
    · have := List.pairwise_mergeSort (le := fun x y : α => !ltS (key y) (key x)) ?_ ?_ ((rows.filter fun x => !(gone.any fun s => decide (s = key x)) && !(set.any fun y => decide (key y = key x))) ++ set)
      · exact this.imp fun h => by simpa using h
      · intro x y z h1 h2
        simp only [Bool.not_eq_true'] at *
        rcases ltS_total (key z) (key x) with h | h | h
        · rcases ltS_total (key x) (key y) with h' | h' | h'
          · rw [ltS_trans h h'] at h2; cases h2
          · rw [← h'] at h2; exact h2
          · rw [h'] at h1; cases h1
        · rw [h]; exact ltS_irrefl _
        · exact ltS_asymm h
      · intro x y
        cases h : ltS (key y) (key x)
        · rfl
        · rw [ltS_asymm h]; rfl
    · refine (hp.pairwise_iff (fun h => Ne.symm h)).2 ?_
      rw [List.pairwise_append]
      refine ⟨List.Pairwise.sublist List.filter_sublist (hr.imp fun h => ltS_ne h), hs.imp fun h => ltS_ne h, ?_⟩
      intro x hx y hy he
      have := (List.mem_filter.1 hx).2
      simp only [Bool.and_eq_true, Bool.not_eq_true'] at this
      have h2 := List.any_eq_false.1 this.2 y hy
      exact h2 (decide_eq_true he.symm)
  · intro x
    rw [show x ∈ chgL key rows set gone ↔ _ from hp.mem_iff, List.mem_append, List.mem_filter]
    simp only [Bool.and_eq_true, Bool.not_eq_true', List.any_eq_false, decide_eq_true_eq]
    constructor
    · rintro (⟨h1, h2, h3⟩ | h)
      · exact .inr ⟨h1, fun h => h2 _ h rfl, fun y hy => h3 y hy⟩
      · exact .inl h
    · rintro (h | ⟨h1, h2, h3⟩)
      · exact .inr h
      · exact .inl ⟨h1, fun s hs he => h2 (he ▸ hs), fun y hy => h3 y hy⟩
theorem chgL_eq {rows set : List α} {gone : List ByteArray} {r : List α} (hr : Sorted key rows) (hs : Sorted key set) (h : IsChg key rows set gone r) : chgL key rows set gone = r := (chgL_is hr hs).uniq h
theorem chgL_len {rows set : List α} {gone : List ByteArray} : (chgL key rows set gone).length ≤ rows.length + set.length := by
  unfold chgL
  rw [List.length_mergeSort, List.length_append]
  have := List.length_filter_le (fun x => !(gone.any fun s => decide (s = key x)) && !(set.any fun y => decide (key y = key x))) rows
  omega
/-- The rows of the later state are the changed ones. -/
theorem betw_is [DecidableEq α] {a b : List α} (ha : Sorted key a) (hb : Sorted key b) : IsChg key a (setOf a b) (goneOf key a b) b := by
  refine ⟨hb, fun x => ⟨fun hx => ?_, ?_⟩⟩
  · by_cases hxa : x ∈ a
    · refine .inr ⟨hxa, fun hg => ?_, fun y hy he => ?_⟩
      · exact (goneOf_mem.1 hg).2 x hx rfl
      · obtain ⟨h1, h2⟩ := setOf_mem.1 hy
        have := sorted_uniq hb h1 hx he
        exact h2 (this ▸ hxa)
    · exact .inl (setOf_mem.2 ⟨hx, hxa⟩)
  · rintro (h | ⟨h1, h2, h3⟩)
    · exact (setOf_mem.1 h).1
    · by_cases hg : ∃ y ∈ b, key y = key x
      · obtain ⟨y, hy, he⟩ := hg
        by_cases hya : y ∈ a
        · rw [sorted_uniq ha h1 hya he.symm]; exact hy
        · exact absurd he (h3 y (setOf_mem.2 ⟨hy, hya⟩))
      · exact absurd (goneOf_mem.2 ⟨⟨x, h1, rfl⟩, fun y hy he => hg ⟨y, hy, he⟩⟩) h2
theorem betw_in {a b : List α} : AllIn key a (goneOf key a b) := fun s hs => (goneOf_mem.1 hs).1
theorem setOf_sorted [DecidableEq α] {a b : List α} (h : Sorted key b) : Sorted key (setOf a b) := List.Pairwise.sublist List.filter_sublist h
theorem goneOf_sorted {a b : List α} (h : Sorted key a) : Sorted (fun s : ByteArray => s) (goneOf key a b) := by
  unfold goneOf Sorted
  rw [List.pairwise_map]
  exact List.Pairwise.sublist List.filter_sublist h
end
theorem goneE_as (has : ByteArray → Bool) : ∀ (l : List ByteArray) (p : Option ByteArray), goneE has p l = 0 ↔ rowsE (fun s : ByteArray => s) (fun s => if nameOk s = false then 4 else if has s = true then 7 else 0) p l = 0
  | [], p => by simp [goneE, rowsE]
  | s :: r, p => by
    have ih := goneE_as has r (some s)
    unfold goneE rowsE
    cases hn : nameOk s
    · simp
    · cases hb : badOrd (fun s : ByteArray => s) p s
      · cases hh : has s
        · simpa using ih
        · simp
      · cases hh : has s <;> simp
theorem goneE_ok {has : ByteArray → Bool} {l : List ByteArray} : goneE has none l = 0 ↔ (∀ s ∈ l, nameOk s = true ∧ has s = false) ∧ Sorted (fun s : ByteArray => s) l := by
  rw [goneE_as, rowsE_ok]
  refine and_congr (forall_congr' fun s => imp_congr_right fun _ => ?_) Iff.rfl
  cases nameOk s <;> cases has s <;> simp
theorem firstE_all : ∀ {l : List Nat}, (∀ e ∈ l, e = 0) → firstE l = 0
  | [], _ => rfl
  | x :: r, h => by
    unfold firstE
    rw [if_neg (by simpa using h x List.mem_cons_self)]
    exact firstE_all fun e he => h e (List.mem_cons_of_mem _ he)
theorem jobE_name {x : JobD} (h : jobE x = 0) : nameOk x.name = true := by
  unfold jobE at h
  cases hn : nameOk x.name
  · rw [hn] at h; simp at h
  · rfl
theorem nodeE_name {x : NodeD} (h : nodeE x = 0) : nameOk x.name = true := by
  unfold nodeE at h
  cases hn : nameOk x.name
  · rw [hn] at h; simp at h
  · rfl
theorem leaseE_C {s : St} (hs : Fine s) {x : LeaseD} (hx : x ∈ s.leases) : leaseC x = 0 := by
  have h := hs.l x hx
  unfold leaseE at h
  cases h1 : jobAt s.jobs x.job with
  | none => rw [h1] at h; simp at h
  | some j =>
    cases h2 : nodeAt s.nodes x.node with
    | none => rw [h1, h2] at h; simp at h
    | some n =>
      rw [h1, h2] at h
      have hj := List.mem_of_find?_eq_some h1
      have hj2 := List.find?_some h1
      have hn := List.mem_of_find?_eq_some h2
      have hn2 := List.find?_some h2
      have e1 : nameOk x.job = true := by rw [← of_decide_eq_true hj2]; exact jobE_name (hs.j j hj)
      have e2 : nameOk x.node = true := by rw [← of_decide_eq_true hn2]; exact nodeE_name (hs.n n hn)
      unfold leaseC
      rw [e1, e2]
      simpa using h
theorem leaseC_name {x : LeaseD} (h : leaseC x = 0) : nameOk x.job = true := by
  unfold leaseC at h
  cases hn : nameOk x.job
  · rw [hn] at h; simp at h
  · rfl
theorem has_false {α : Type} [DecidableEq α] {key : α → ByteArray} {a b : List α} {s : ByteArray} (h : s ∈ goneOf key a b) : ((setOf a b).any fun x => decide (key x = s)) = false := by
  rw [List.any_eq_false]
  intro x hx he
  exact (goneOf_mem.1 h).2 x (setOf_mem.1 hx).1 (of_decide_eq_true he)
/-- What has changed between two states that may be may be told. -/
theorem betw_ok {a b : St} (ha : checkE a = 0) (hb : checkE b = 0) (h : a.rev < b.rev) : deltaE (betw a b) = 0 := by
  have fa := (fine_iff a).1 ha
  have fb := (fine_iff b).1 hb
  have r1 : revOk (betw a b) := ⟨fa.rev, h, fb.rev.2⟩
  have r2 : lenOk (betw a b) :=
    ⟨⟨Nat.le_trans (setOf_len _ _) fb.nj, Nat.le_trans (setOf_len _ _) fb.nl, Nat.le_trans (goneOf_len _ _ _) fa.nj, Nat.le_trans (goneOf_len _ _ _) fa.nl⟩, Nat.le_trans (setOf_len _ _) fb.nn, Nat.le_trans (goneOf_len _ _ _) fa.nn⟩
  unfold deltaE
  rw [if_neg (by simpa using r1), if_neg (by simpa using r2)]
  refine firstE_all fun e he => ?_
  simp only [deltaEs, List.mem_cons, List.mem_nil_iff, or_false] at he
  rcases he with rfl | rfl | rfl | rfl | rfl | rfl
  · exact rowsE_ok.2 ⟨fun x hx => fb.j x (setOf_mem.1 hx).1, setOf_sorted fb.sj⟩
  · exact rowsE_ok.2 ⟨fun x hx => fb.n x (setOf_mem.1 hx).1, setOf_sorted fb.sn⟩
  · exact rowsE_ok.2 ⟨fun x hx => leaseE_C fb (setOf_mem.1 hx).1, setOf_sorted fb.sl⟩
  · refine goneE_ok.2 ⟨fun s hs => ⟨?_, has_false hs⟩, goneOf_sorted fa.sj⟩
    obtain ⟨⟨x, hx, rfl⟩, _⟩ := goneOf_mem.1 hs
    exact jobE_name (fa.j x hx)
  · refine goneE_ok.2 ⟨fun s hs => ⟨?_, has_false hs⟩, goneOf_sorted fa.sn⟩
    obtain ⟨⟨x, hx, rfl⟩, _⟩ := goneOf_mem.1 hs
    exact nodeE_name (fa.n x hx)
  · refine goneE_ok.2 ⟨fun s hs => ⟨?_, has_false hs⟩, goneOf_sorted fa.sl⟩
    obtain ⟨⟨x, hx, rfl⟩, _⟩ := goneOf_mem.1 hs
    exact leaseC_name (leaseE_C fa hx)
/-- What Apply says, and gives. -/
def chgSt (s : St) (d : DeltaD) : St := ⟨d.upto, chgL JobD.name s.jobs d.jobs d.gj, chgL NodeD.name s.nodes d.nodes d.gn, chgL LeaseD.job s.leases d.leases d.gl⟩
def chgAll (s : St) (d : DeltaD) : Bool := chgB JobD.name s.jobs d.gj && chgB NodeD.name s.nodes d.gn && chgB LeaseD.job s.leases d.gl
def applyE (s : St) (d : DeltaD) : Nat :=
  if checkE s ≠ 0 then checkE s else if deltaE d ≠ 0 then deltaE d else if d.frm ≠ s.rev then 10 else if chgAll s d = true then checkE (chgSt s d) else 6
def applyS (s : St) (d : DeltaD) : St := if applyE s d = 0 then chgSt s d else ⟨0, [], [], []⟩
theorem apply_betw {a b : St} (ha : checkE a = 0) (hb : checkE b = 0) (h : a.rev < b.rev) : applyE a (betw a b) = 0 ∧ applyS a (betw a b) = b := by
  have fa := (fine_iff a).1 ha
  have fb := (fine_iff b).1 hb
  have hc : chgSt a (betw a b) = b := by
    unfold chgSt betw
    simp only
    rw [chgL_eq fa.sj (setOf_sorted fb.sj) (betw_is fa.sj fb.sj), chgL_eq fa.sn (setOf_sorted fb.sn) (betw_is fa.sn fb.sn), chgL_eq fa.sl (setOf_sorted fb.sl) (betw_is fa.sl fb.sl)]
  have hall : chgAll a (betw a b) = true := by
    unfold chgAll betw
    simp only [Bool.and_eq_true]
    exact ⟨⟨chgB_iff.2 betw_in, chgB_iff.2 betw_in⟩, chgB_iff.2 betw_in⟩
  have he : applyE a (betw a b) = 0 := by
    unfold applyE
    rw [if_neg (by simpa using ha), if_neg (by simpa using betw_ok ha hb h), if_neg (by simp [betw]), if_pos hall, hc, hb]
  exact ⟨he, by unfold applyS; rw [if_pos he, hc]⟩
end Go.Proofs.YtkommikehbbhbaaGreatDoor

/-
  Plain: maps of rows by their keys, as functions.
-/
set_option linter.unusedVariables false
set_option linter.unusedSimpArgs false
namespace Go.Proofs.YtkommikehbbhbaaGreatDoor
section
variable {α : Type} {key : α → ByteArray} {f : List UInt8 → Option α} {M M' : α → Prop}
/-- f holds, at its key, just each row of which M holds. -/
def IsM (key : α → ByteArray) (f : List UInt8 → Option α) (M : α → Prop) : Prop := ∀ k x, f k = some x ↔ M x ∧ (key x).data.toList = k
def putX (f : List UInt8 → Option α) (s : List UInt8) (x : α) : List UInt8 → Option α := fun k => if k = s then some x else f k
def delX (f : List UInt8 → Option α) (s : List UInt8) : List UInt8 → Option α := fun k => if k = s then none else f k
theorem list_inj {a b : ByteArray} (h : a.data.toList = b.data.toList) : a = b := ByteArray.ext (Array.toList_inj.1 h)
theorem isM_none : IsM key (fun _ => (none : Option α)) (fun _ => False) := fun k x => ⟨fun h => (by cases h), fun h => h.1.elim⟩
theorem IsM.congr (h : IsM key f M) (hm : ∀ z, M z ↔ M' z) : IsM key f M' := fun k x => (h k x).trans (by rw [hm x])
theorem IsM.put (h : IsM key f M) (x : α) : IsM key (putX f (key x).data.toList x) (fun z => z = x ∨ (M z ∧ key z ≠ key x)) := fun k z => by
  unfold putX
  by_cases hk : k = (key x).data.toList
  · subst hk
    rw [if_pos rfl]
    constructor
    · intro h'; injection h' with h'; subst h'; exact ⟨.inl rfl, rfl⟩
    · rintro ⟨rfl | ⟨_, h1⟩, h2⟩
      · rfl
      · exact absurd (list_inj h2) h1
  · rw [if_neg hk, h k z]
    constructor
    · rintro ⟨h1, h2⟩
      exact ⟨.inr ⟨h1, fun e => hk (by rw [← h2, e])⟩, h2⟩
    · rintro ⟨rfl | ⟨h1, _⟩, h2⟩
      · exact absurd h2.symm hk
      · exact ⟨h1, h2⟩
theorem IsM.del (h : IsM key f M) (s : ByteArray) : IsM key (delX f s.data.toList) (fun z => M z ∧ key z ≠ s) := fun k z => by
  unfold delX
  by_cases hk : k = s.data.toList
  · subst hk
    rw [if_pos rfl]
    constructor
    · intro h'; cases h'
    · rintro ⟨⟨_, h1⟩, h2⟩
      exact absurd (list_inj h2) h1
  · rw [if_neg hk, h k z]
    constructor
    · rintro ⟨h1, h2⟩
      exact ⟨⟨h1, fun e => hk (by rw [← h2, e])⟩, h2⟩
    · rintro ⟨⟨h1, _⟩, h2⟩
      exact ⟨h1, h2⟩
theorem IsM.at_none (h : IsM key f M) {s : ByteArray} (hs : f s.data.toList = none) : ∀ x, M x → key x ≠ s := fun x hx he => by
  have := (h s.data.toList x).2 ⟨hx, by rw [he]⟩
  rw [hs] at this; cases this
theorem IsM.at_some (h : IsM key f M) {s : ByteArray} {x : α} (hs : f s.data.toList = some x) : M x ∧ key x = s := by
  obtain ⟨h1, h2⟩ := (h _ x).1 hs
  exact ⟨h1, list_inj h2⟩
theorem put_map {β : Type} (g : α → β) (f : List UInt8 → Option α) (s : List UInt8) (x : α) (k : List UInt8) : (if k = s then some (g x) else (f k).map g) = (putX f s x k).map g := by
  unfold putX; split <;> rfl
theorem del_map {β : Type} (g : α → β) (f : List UInt8 → Option α) (s : List UInt8) (k : List UInt8) : (if k = s then none else (f k).map g) = (delX f s k).map g := by
  unfold delX; split <;> rfl
/-- What was in the map, sorted by its keys, are the rows. -/
theorem sorted_vals (h : IsM key f M) {ss ts : List α} (ha : AllV f ss) (hp : ts.Perm ss) (hs : ts.Pairwise fun x y => ltS (key y) (key x) = false) : Sorted key ts ∧ ∀ x, x ∈ ts ↔ M x := by
  obtain ⟨ps, rfl, h1, h2, h3⟩ := ha
  constructor
  · refine keys_pw hs ?_
    refine (hp.pairwise_iff (fun h => Ne.symm h)).2 ?_
    rw [List.pairwise_map]
    rw [List.Nodup, List.pairwise_map] at h1
    refine List.Pairwise.imp_of_mem ?_ h1
    intro a b ha hb hne he
    have e1 := ((h _ _).1 (h2 a ha)).2
    have e2 := ((h _ _).1 (h2 b hb)).2
    exact hne (by rw [← e1, ← e2, he])
  · intro x
    rw [hp.mem_iff, List.mem_map]
    constructor
    · rintro ⟨p, hp, rfl⟩
      exact ((h _ _).1 (h2 p hp)).1
    · intro hx
      have hf := (h (key x).data.toList x).2 ⟨hx, rfl⟩
      obtain ⟨p, hp, he⟩ := List.mem_map.1 (h3 _ _ hf)
      refine ⟨p, hp, ?_⟩
      have := h2 p hp
      rw [he, hf] at this
      injection this with this
      exact this.symm
end
section
variable {α : Type} {key : α → ByteArray} {f : List UInt8 → Option α} {rows set : List α} {gone : List ByteArray}
def M1 (rows : List α) (j : Nat) (x : α) : Prop := x ∈ rows.take j
def M2 (key : α → ByteArray) (rows : List α) (gone : List ByteArray) (j : Nat) (x : α) : Prop := x ∈ rows ∧ key x ∉ gone.take j
def M3 (key : α → ByteArray) (rows set : List α) (gone : List ByteArray) (j : Nat) (x : α) : Prop := x ∈ set.take j ∨ (x ∈ rows ∧ key x ∉ gone ∧ ∀ y ∈ set.take j, key y ≠ key x)
theorem mem_take_succ {l : List α} {j : Nat} {x z : α} (h : l[j]? = some x) : z ∈ l.take (j + 1) ↔ z ∈ l.take j ∨ z = x := by
  rw [List.take_add_one, h, Option.toList_some, List.mem_append, List.mem_singleton]
theorem IsM.start : IsM key (fun _ => (none : Option α)) (M1 rows 0) := isM_none.congr fun z => by simp [M1]
theorem IsM.one (hs : Sorted key rows) {j : Nat} {x : α} (hx : rows[j]? = some x) (h : IsM key f (M1 rows j)) : IsM key (putX f (key x).data.toList x) (M1 rows (j + 1)) := (h.put x).congr fun z => by
  unfold M1
  rw [mem_take_succ hx]
  constructor
  · rintro (h | h)
    · exact .inr h
    · exact .inl h.1
  · rintro (h | h)
    · exact .inr ⟨h, sorted_before hs hx z h⟩
    · exact .inl h
theorem IsM.all (h : IsM key f (M1 rows rows.length)) : IsM key f (M2 key rows gone 0) := h.congr fun z => by simp [M1, M2]
theorem IsM.two {j : Nat} {s : ByteArray} (hx : gone[j]? = some s) (h : IsM key f (M2 key rows gone j)) : IsM key (delX f s.data.toList) (M2 key rows gone (j + 1)) := (h.del s).congr fun z => by
  unfold M2
  rw [mem_take_succ hx, not_or, and_assoc]
theorem IsM.left (h : IsM key f (M2 key rows gone gone.length)) : IsM key f (M3 key rows set gone 0) := h.congr fun z => by simp [M2, M3]
theorem IsM.three {j : Nat} {x : α} (hs : Sorted key set) (hx : set[j]? = some x) (h : IsM key f (M3 key rows set gone j)) : IsM key (putX f (key x).data.toList x) (M3 key rows set gone (j + 1)) := (h.put x).congr fun z => by
  unfold M3
  have hm : ∀ y, y ∈ set.take (j + 1) ↔ y ∈ set.take j ∨ y = x := fun y => mem_take_succ hx
  rw [hm]
  constructor
  · rintro (rfl | ⟨h1 | ⟨h1, h2, h3⟩, h4⟩)
    · exact .inl (.inr rfl)
    · exact .inl (.inl h1)
    · refine .inr ⟨h1, h2, fun y hy => ?_⟩
      rcases (hm y).1 hy with hy | rfl
      · exact h3 y hy
      · exact Ne.symm h4
  · rintro ((h1 | rfl) | ⟨h1, h2, h3⟩)
    · exact .inr ⟨.inl h1, sorted_before hs hx z h1⟩
    · exact .inl rfl
    · exact .inr ⟨.inr ⟨h1, h2, fun y hy => h3 y ((hm y).2 (.inl hy))⟩, Ne.symm (h3 x ((hm x).2 (.inr rfl)))⟩
theorem gone_missing (hs : Sorted (fun s : ByteArray => s) gone) {j : Nat} {s : ByteArray} (hx : gone[j]? = some s) (h : ∀ x, M2 key rows gone j x → key x ≠ s) : chgB key rows gone = false := by
  cases hc : chgB key rows gone
  · rfl
  · obtain ⟨x, h1, h2⟩ := chgB_iff.1 hc s (List.mem_of_getElem? hx)
    exact absurd h2 (h x ⟨h1, fun hm => sorted_before (key := fun s : ByteArray => s) hs hx (key x) hm h2⟩)
theorem gone_there (h : ∀ s ∈ gone.take gone.length, ∃ x ∈ rows, key x = s) : chgB key rows gone = true := chgB_iff.2 (by rw [List.take_length] at h; exact h)
theorem gone_step {j : Nat} {s : ByteArray} {x : α} (hx : gone[j]? = some s) (h : ∀ s ∈ gone.take j, ∃ x ∈ rows, key x = s) (hm : M2 key rows gone j x ∧ key x = s) : ∀ s ∈ gone.take (j + 1), ∃ x ∈ rows, key x = s := by
  intro t ht
  rcases (mem_take_succ hx).1 ht with h1 | rfl
  · exact h t h1
  · exact ⟨x, hm.1.1, hm.2⟩
theorem chg_done (hr : Sorted key rows) (hs : Sorted key set) (h : IsM key f (M3 key rows set gone set.length)) {ss ts : List α} (ha : AllV f ss) (hp : ts.Perm ss) (hw : ts.Pairwise fun x y => ltS (key y) (key x) = false) : ts = chgL key rows set gone := by
  obtain ⟨h1, h2⟩ := sorted_vals h ha hp hw
  refine (chgL_eq hr hs ⟨h1, fun x => ?_⟩).symm
  rw [h2 x]
  unfold M3
  rw [List.take_length]
end
end Go.Proofs.YtkommikehbbhbaaGreatDoor

/-
  Steps of a walk at own maps; what the contract of delta.changed says.
-/
set_option linter.unusedVariables false
set_option linter.unusedSimpArgs false
namespace Go.Proofs.YtkommikehbbhbaaGreatDoor
open Go.RowKit
section
variable {P : Program} {ops : Array Oper} {o : Oper} {a : Act} {w : World} {K : Act → World → Prop} {Q : Exit → Act → World → Prop} {E : Prop}
/-- An entry is written into a map. -/
theorem step_map_put (hw : Region.wanted o (yielded ops a.tmps) = true) (t : TypeId) (x y z : Operand) (ho : o.op = .mapUpdate t x y z) {m k v : Value} (hx : a.eval x = m) (hy : a.eval y = k) (hz : a.eval z = v) {w' : World}
    (hr : (Instr.mapUpdate t m k v).run P w = .ok () w') (h : K (a.put o.dst undef) w') : if Region.wanted o (yielded ops a.tmps) = true then Oper.wp P o a w K Q else E := by
  rw [if_pos hw]
  unfold Oper.wp execOp
  simp only [ho, hx, hy, hz, Sem.run_bind, Sem.run_pure, Result.andThen_ok, hr]
  exact h
end
theorem GrB.then_ {w W W' : World} {g : Nat} (h : GrB w g W) (hg : W.grownBy W' (some g)) : GrB w g W' :=
  ⟨hg.os.trans h.os, hg.tape.trans h.tape, hg.output.trans h.output, Nat.le_trans h.size hg.size, fun k hk hne => (hg.block k (Nat.lt_of_lt_of_le hk h.size) hne).trans (h.block k hk hne)⟩
theorem OM.put_ {α : Type} {P : Program} {kt : TypeId} {w : World} {b n : Nat} {g : α → Value} {f : List UInt8 → Option α} {k : List UInt8} {x : α} (h : OM P kt w b n (putF (fun s => (f s).map g) k (g x))) : OM P kt w b n (fun s => (putX f k x s).map g) := by
  have e : putF (fun s => (f s).map g) k (g x) = fun s => (putX f k x s).map g := funext fun s => put_map g f k x s
  rw [← e]; exact h
theorem OM.del_ {α : Type} {P : Program} {kt : TypeId} {w : World} {b n : Nat} {g : α → Value} {f : List UInt8 → Option α} {k : List UInt8} (h : OM P kt w b n (delF (fun s => (f s).map g) k)) : OM P kt w b n (fun s => (delX f k s).map g) := by
  have e : delF (fun s => (f s).map g) k = fun s => (delX f k s).map g := funext fun s => del_map g f k s
  rw [← e]; exact h
theorem OM.drew {P : Program} {kt : TypeId} {w : World} {b n : Nat} {f : List UInt8 → Option Value} (h : OM P kt w b n f) : OM P kt w.drew b n f := h.below (Below.refl _ w).drew
/-- What delta.changed gives: the rows, or nothing. -/
def chgR {α : Type} (key : α → ByteArray) (rows set : List α) (gone : List ByteArray) : List α := if chgB key rows gone = true then chgL key rows set gone else []
theorem ownR_flat {α : Type} {w : World} {base size : Nat} {E : TypeId} {v : Value} {l : List α} {row : α → List Value} (hs : ∀ x, (row x).length = size) (h : w.ownsRow base E size v l.length (l.map row).flatten) : ∃ p c, v = .slice p l.length c ∧ OwnR w base E size p c (l.map row) := by
  obtain ⟨p, c, rfl⟩ := own_form h
  refine ⟨p, c, rfl, fun r hr => by obtain ⟨x, _, rfl⟩ := List.mem_map.1 hr; exact hs x, ?_⟩
  rw [List.length_map]; exact h
end Go.Proofs.YtkommikehbbhbaaGreatDoor

/-
  The contract of delta.changed at jobs.
-/
set_option linter.unusedVariables false
set_option linter.unusedSimpArgs false
namespace Go.Proofs.YtkommikehbbhbaaGreatDoor
open Go.RowKit
set_option maxHeartbeats 8000000 in
set_option maxRecDepth 100000 in
theorem changedJ_any (rows set : List JobD) (gone : List ByteArray) (p1 p2 p3 : Option Addr) (c1 c2 c3 : Nat) (w : World) (h1 : Elts w w.heap.size 5 p1 (rows.map rowJ)) (h2 : Elts w w.heap.size 5 p2 (set.map rowJ)) (h3 : Elts w w.heap.size 1 p3 (gone.map rowS))
    (l1 : rows.length ≤ 1000) (l2 : set.length ≤ 1000) (l3 : gone.length ≤ 1000) (s1 : Sorted JobD.name rows) (s2 : Sorted JobD.name set) (s3 : Sorted (fun s : ByteArray => s) gone)
    (k1 : ∀ x ∈ rows, x.name.size ≤ 16) (k2 : ∀ x ∈ set, x.name.size ≤ 16) (k3 : ∀ s ∈ gone, s.size ≤ 16) :
    Calls Tryz.prog 43 #[.slice p1 rows.length c1, .slice p2 set.length c2, .slice p3 gone.length c3, .func (.func 44) #[] #[]] w fun e w' =>
      ∃ p c, e = .returned (.tuple #[.slice p (chgR JobD.name rows set gone).length c, .bool (chgB JobD.name rows gone)]) ∧ OwnR w' w.heap.size 44 5 p c ((chgR JobD.name rows set gone).map rowJ) ∧ Below w.heap.size w w' := by
  have e1 : (w.alloc (.cells #[Value.func (.func 44) #[] #[]] 84)).heap.size = w.heap.size + 1 := by simp
  have om0 := OM.made (w.alloc (.cells #[Value.func (.func 44) #[] #[]] 84)) Tryz.prog 9
  rw [e1] at om0
  have bk0 := (Blk.new w 84 #[Value.func (.func 44) #[] #[]]).alloc (.map #[] 0)
  have b0 : Below w.heap.size w ((w.alloc (.cells #[Value.func (.func 44) #[] #[]] 84)).alloc (.map #[] 0)) := ((Below.refl _ _).alloc (Nat.le_refl _) _).alloc (by simp) _
  clear e1
  have S1 := Lib.hid s1
  have S2 := Lib.hid s2
  have S3 := Lib.hid s3
  have K1 := Lib.hid k1
  have K2 := Lib.hid k2
  have K3 := Lib.hid k3
  have HX := Lib.hid (fun (x : JobD) (W : World) => keyxJ_any x W)
  have HZ := Lib.hid (fun W => zeroJ_lit W)
  clear s1 s2 s3 k1 k2 k3
  have hmm := @run_makeMap Tryz.prog
  go_enter Tryz.func43, Tryz.ntmps43
  go_wp2_with fail
  generalize (w.alloc _).alloc _ = W0 at *
  go_loopw [22] (fun i wr => ∃ (k : Nat) (f : List UInt8 → Option JobD), k ≤ rows.length ∧ i = .int .i64 k ∧ Below w.heap.size w wr ∧ Blk wr w.heap.size 84 #[Value.func (.func 44) #[] #[]] ∧ OM Tryz.prog 9 wr (w.heap.size + 1) k (fun s => (f s).map (fun x : JobD => Value.agg #[Value.string x.name, Value.int .i64 x.prio, Value.int .i64 x.need, Value.int .i64 x.tries, Value.string x.tag])) ∧ Hid (IsM JobD.name f (M1 rows k))) (fun i _ => rows.length - (intOf i).toNat)
  case atStart => exact ⟨0, fun _ => none, Nat.zero_le _, rfl, b0, bk0, om0, (show IsM JobD.name _ (M1 rows 0) from IsM.start)⟩
  case round =>
    clear b0 bk0 om0
    obtain ⟨k, f, hk, rfl, hbr, bk, om, HI⟩ := hrel
    by_cases hlt : k < rows.length
    · have hx : rows[k]? = some rows[k] := List.getElem?_eq_getElem hlt
      have hsz := K1.out rows[k] (List.getElem_mem hlt)
      generalize rows[k] = x at *
      obtain ⟨a, rfl, hab, _, hat⟩ := (h1.below hbr).at_ (k := k) (r := rowJ x) (by rw [List.getElem?_map, hx]; rfl)
      have I2 := Lib.hid (HI.out.one S1.out hx)
      have bx := Blk.new wr 44 #[Value.string x.name, Value.int .i64 x.prio, Value.int .i64 x.need, Value.int .i64 x.tries, Value.string x.tag]
      have bk5 := bk.alloc (.cells #[Value.string x.name, Value.int .i64 x.prio, Value.int .i64 x.need, Value.int .i64 x.tries, Value.string x.tag] 44)
      have c5 := hbr.alloc hbr.size (.cells #[Value.string x.name, Value.int .i64 x.prio, Value.int .i64 x.need, Value.int .i64 x.tries, Value.string x.tag] 44)
      have om5 := om.below ((Below.refl _ wr).alloc (Nat.le_refl _) (.cells #[Value.string x.name, Value.int .i64 x.prio, Value.int .i64 x.need, Value.int .i64 x.tries, Value.string x.tag] 44))
      have hgx : wr.heap.size ≠ w.heap.size + 1 := by have := om.lt; omega
      have hsm : x.name.size ≤ maxLen := by unfold maxLen; omega
      have hgk : w.heap.size ≠ w.heap.size + 1 := by omega
      clear hx HI hbr bk om hsz
      go_upto_region 5 with (first | (refine wpList_load_at rfl _ _ rfl (a.add (k * 5)) rfl [Value.string x.name, Value.int .i64 x.prio, Value.int .i64 x.need, Value.int .i64 x.tries, Value.string x.tag] _ hat Tryz.underlying44 rfl job_size ?_) | (refine wpList_store_new rfl _ _ _ rfl rfl 44 _ #[Value.string x.name, Value.int .i64 x.prio, Value.int .i64 x.need, Value.int .i64 x.tries, Value.string x.tag] rfl job_size rfl rfl ?_))
      clear hat
      generalize wr.alloc _ = W5 at *
      generalize wr.heap.size = gx at *
      have G0 : GrB W5 (w.heap.size + 1) W5.drew := GrB.start _ _
      refine wp_region_held_drew (S := GrB W5 (w.heap.size + 1)) (by kernel_rfl) G0 (fun hHeld => ?_)
      refine wpAnyH_take (i := 0) (v := ?_) rfl (by kernel_rfl) (by kernel_rfl) (by kernel_rfl) (fun _ _ _ h => h) (Or.inl ⟨by rfl, ?_⟩) (by assumption) ?_
      rotate_left
      · (intro w5 hw5; (try dsimp only at hw5); have q0 := (GrB.blk hw5 bk5 hgk).cell 0; have k0 := (GrB.blk hw5 bx hgx).cell 0; have k1 := (GrB.blk hw5 bx hgx).cell 1; have k2 := (GrB.blk hw5 bx hgx).cell 2; have k3 := (GrB.blk hw5 bx hgx).cell 3; have k4 := (GrB.blk hw5 bx hgx).cell 4; go_simp; (try with_reducible rfl))
      (try simp only [Act.put, List.setIfInBounds_toArray, List.set_cons_zero, List.set_cons_succ, List.getElem_toArray, List.getElem_cons_zero, List.getElem_cons_succ])
      refine wpAnyH_take (i := 1) (v := ?_) rfl (by kernel_rfl) (by kernel_rfl) (by kernel_rfl) (fun _ _ _ h => h) (Or.inl ⟨by rfl, ?_⟩) (by assumption) ?_
      rotate_left
      · (intro w5 hw5; (try dsimp only at hw5); have q0 := (GrB.blk hw5 bk5 hgk).cell 0; have k0 := (GrB.blk hw5 bx hgx).cell 0; have k1 := (GrB.blk hw5 bx hgx).cell 1; have k2 := (GrB.blk hw5 bx hgx).cell 2; have k3 := (GrB.blk hw5 bx hgx).cell 3; have k4 := (GrB.blk hw5 bx hgx).cell 4; go_simp; (try with_reducible rfl))
      (try simp only [Act.put, List.setIfInBounds_toArray, List.set_cons_zero, List.set_cons_succ, List.getElem_toArray, List.getElem_cons_zero, List.getElem_cons_succ])
      refine wpAnyH_take (i := 2) (v := ?_) rfl (by kernel_rfl) (by kernel_rfl) (by kernel_rfl) (fun _ _ _ h => h) (Or.inl ⟨by rfl, ?_⟩) (by assumption) ?_
      rotate_left
      · (intro w5 hw5; (try dsimp only at hw5); have q0 := (GrB.blk hw5 bk5 hgk).cell 0; have k0 := (GrB.blk hw5 bx hgx).cell 0; have k1 := (GrB.blk hw5 bx hgx).cell 1; have k2 := (GrB.blk hw5 bx hgx).cell 2; have k3 := (GrB.blk hw5 bx hgx).cell 3; have k4 := (GrB.blk hw5 bx hgx).cell 4; go_simp; (try with_reducible rfl))
      (try simp only [Act.put, List.setIfInBounds_toArray, List.set_cons_zero, List.set_cons_succ, List.getElem_toArray, List.getElem_cons_zero, List.getElem_cons_succ])
      refine wpAnyH_take (i := 4) (v := ?_) rfl (by kernel_rfl) (by kernel_rfl) (by kernel_rfl) (fun _ _ _ h => h) (Or.inl ⟨by rfl, ?_⟩) (by assumption) ?_
      rotate_left
      · (intro w5 hw5; (try dsimp only at hw5); have q0 := (GrB.blk hw5 bk5 hgk).cell 0; have k0 := (GrB.blk hw5 bx hgx).cell 0; have k1 := (GrB.blk hw5 bx hgx).cell 1; have k2 := (GrB.blk hw5 bx hgx).cell 2; have k3 := (GrB.blk hw5 bx hgx).cell 3; have k4 := (GrB.blk hw5 bx hgx).cell 4; go_simp; (try with_reducible rfl))
      (try simp only [Act.put, List.setIfInBounds_toArray, List.set_cons_zero, List.set_cons_succ, List.getElem_toArray, List.getElem_cons_zero, List.getElem_cons_succ])
      refine wpAnyH_ready (rs := [3]) (by kernel_rfl) (by simp) ?_
      refine AllReadyH.cons rfl (fun K hK => ?_) AllReadyH.nil
      go_simp
      refine (HX.out x _).mono ?_
      rintro e u1 ⟨rfl, rfl⟩
      have G1 := GrB.more G0 ((Below.refl _ _).alloc (Nat.le_refl _) (.cells #[Value.string x.name, Value.int .i64 x.prio, Value.int .i64 x.need, Value.int .i64 x.tries, Value.string x.tag] 44))
      have om6 := om5.drew.below ((Below.refl _ _).alloc (Nat.le_refl _) (.cells #[Value.string x.name, Value.int .i64 x.prio, Value.int .i64 x.need, Value.int .i64 x.tries, Value.string x.tag] 44))
      generalize W5.drew.alloc _ = u1 at *
      refine hK.out _ _ ?_ (fun hHeld => ?_)
      · exact G1
      clear hK K
      (try simp only [Act.put, List.setIfInBounds_toArray, List.set_cons_zero, List.set_cons_succ, List.getElem_toArray, List.getElem_cons_zero, List.getElem_cons_succ])
      obtain ⟨u2, hr2, om7, hg2⟩ := om6.store (t := 118) Tryz.underlying118 Tryz.underlying9 (by unfold maxLen; omega) hsm (Value.agg #[Value.string x.name, Value.int .i64 x.prio, Value.int .i64 x.need, Value.int .i64 x.tries, Value.string x.tag])
      have G2 := G1.then_ hg2
      refine wpAnyH_ready (rs := [5]) (by kernel_rfl) (by simp) ?_
      refine AllReadyH.cons rfl (fun K hK => ?_) AllReadyH.nil
      refine step_map_put rfl 118 _ _ _ rfl rfl rfl rfl hr2 ?_
      refine hK.out _ _ ?_ (fun hHeld => ?_)
      · exact G2
      clear hK K
      (try simp only [Act.put, List.setIfInBounds_toArray, List.set_cons_zero, List.set_cons_succ, List.getElem_toArray, List.getElem_cons_zero, List.getElem_cons_succ])
      refine wpAnyH_done (by kernel_rfl) ?_ _
      have bk7 := GrB.blk G2 bk5 hgk
      have c7 : Below w.heap.size w u2 := c5.grown G2 c5.size (fun k e => by cases e; omega)
      have om8 := OM.put_ (g := (fun x : JobD => Value.agg #[Value.string x.name, Value.int .i64 x.prio, Value.int .i64 x.need, Value.int .i64 x.tries, Value.string x.tag])) om7
      clear G0 G1 G2 om5 om6 om7 bk5 c5 bx hr2 hg2
      go_wp2_with fail
      go_roundw
      case rel => exact ⟨k + 1, putX f x.name.data.toList x, by omega, by go_num, c7, bk7, om8, I2.out⟩
      case measure => simp [intOf]; omega
    · obtain rfl : k = rows.length := by omega
      have I0 := Lib.hid (HI.out.all (gone := gone))
      clear HI
      go_wp2_with fail
      clear hlt
      obtain ⟨wo, rfl⟩ : ∃ wo : World, wo = wr := ⟨_, rfl⟩
      go_loopw [34] (fun i wr => ∃ (k : Nat) (f : List UInt8 → Option JobD), k ≤ gone.length ∧ i = .int .i64 k ∧ Below w.heap.size w wr ∧ Blk wr w.heap.size 84 #[Value.func (.func 44) #[] #[]] ∧ OM Tryz.prog 9 wr (w.heap.size + 1) rows.length (fun s => (f s).map (fun x : JobD => Value.agg #[Value.string x.name, Value.int .i64 x.prio, Value.int .i64 x.need, Value.int .i64 x.tries, Value.string x.tag])) ∧ Hid (IsM JobD.name f (M2 JobD.name rows gone k) ∧ ∀ s ∈ gone.take k, ∃ x ∈ rows, x.name = s)) (fun i _ => gone.length - (intOf i).toNat)
      case atStart => exact ⟨0, f, Nat.zero_le _, rfl, hbr, bk, om, (show IsM JobD.name f (M2 JobD.name rows gone 0) ∧ _ from ⟨I0.out, fun s hs => by simp at hs⟩)⟩
      case round =>
        clear I0 om bk hbr
        obtain ⟨k, f, hk, rfl, hbr, bk, om, HI⟩ := hrel
        by_cases hlt : k < gone.length
        · have hx : gone[k]? = some gone[k] := List.getElem?_eq_getElem hlt
          have hsz := K3.out gone[k] (List.getElem_mem hlt)
          generalize gone[k] = s at *
          obtain ⟨a, rfl, hab, _, hat⟩ := (h3.below hbr).at_ (k := k) (r := rowS s) (by rw [List.getElem?_map, hx]; rfl)
          have e1 := at_one hat
          have hsm : s.size ≤ maxLen := by unfold maxLen; omega
          have hlk := om.look (t := 118) Tryz.underlying118 Tryz.underlying9 (HZ.out _) hsm
          clear hat hsz
          cases hf : f s.data.toList with
          | none =>
            have hB := Lib.hid (gone_missing S3.out hx (HI.out.1.at_none hf))
            simp only [hf, Option.map_none, Option.getD_none, Option.isSome_none] at hlk
            have c5 := hbr.alloc hbr.size (.cells #[Value.string ByteArray.empty, Value.int .i64 0, Value.int .i64 0, Value.int .i64 0, Value.string ByteArray.empty] 44)
            clear hf hx HI
            go_wp2_with (first | (refine wpList_store_new rfl _ _ _ rfl rfl 44 _ #[Value.string ByteArray.empty, Value.int .i64 0, Value.int .i64 0, Value.int .i64 0, Value.string ByteArray.empty] rfl job_size rfl rfl ?_))
            go_ret2
            have hR : chgR JobD.name rows set gone = [] := by unfold chgR; rw [hB.out]; rfl
            exact ⟨none, 0, by rw [hR, hB.out]; rfl, by rw [hR]; exact ⟨fun r hr => by simp at hr, World.ownsRow_nil _ _ _ _⟩, c5⟩
          | some x =>
            have I2 := Lib.hid (And.intro (HI.out.1.two hx) (gone_step hx HI.out.2 (HI.out.1.at_some hf)))
            simp only [hf, Option.map_some, Option.getD_some, Option.isSome_some] at hlk
            have c5 := hbr.alloc hbr.size (.cells #[Value.string x.name, Value.int .i64 x.prio, Value.int .i64 x.need, Value.int .i64 x.tries, Value.string x.tag] 44)
            have bk5 := bk.alloc (.cells #[Value.string x.name, Value.int .i64 x.prio, Value.int .i64 x.need, Value.int .i64 x.tries, Value.string x.tag] 44)
            obtain ⟨u2, hr2, om7, hg2⟩ := (om.below ((Below.refl _ _).alloc (Nat.le_refl _) (.cells #[Value.string x.name, Value.int .i64 x.prio, Value.int .i64 x.need, Value.int .i64 x.tries, Value.string x.tag] 44))).drop (t := 118) Tryz.underlying118 Tryz.underlying9 hsm 0
            have om8 := OM.del_ (g := (fun x : JobD => Value.agg #[Value.string x.name, Value.int .i64 x.prio, Value.int .i64 x.need, Value.int .i64 x.tries, Value.string x.tag])) om7
            have c7 : Below w.heap.size w u2 := c5.grown hg2 c5.size (fun k e => by cases e; omega)
            have bk7 : Blk u2 w.heap.size 84 #[Value.func (.func 44) #[] #[]] := (hg2.block _ bk5.lt (fun e => by injection e with e; omega)).trans bk5
            clear hf hx HI om7 hg2 c5 bk5
            go_wp2_with (first | (refine wpList_store_new rfl _ _ _ rfl rfl 44 _ #[Value.string x.name, Value.int .i64 x.prio, Value.int .i64 x.need, Value.int .i64 x.tries, Value.string x.tag] rfl job_size rfl rfl ?_))
            go_roundw
            case rel => exact ⟨k + 1, delX f s.data.toList, by omega, by go_num, c7, bk7, om8, I2.out⟩
            case measure => simp [intOf]; omega
        · obtain rfl : k = gone.length := by omega
          have hB := Lib.hid (gone_there HI.out.2)
          have I0 := Lib.hid (HI.out.1.left (set := set))
          clear HI
          go_wp2_with fail
          clear hlt
          obtain ⟨wp, rfl⟩ : ∃ wp : World, wp = wr := ⟨_, rfl⟩
          go_loopw [51] (fun i wr => ∃ (k : Nat) (f : List UInt8 → Option JobD), k ≤ set.length ∧ i = .int .i64 k ∧ Below w.heap.size w wr ∧ Blk wr w.heap.size 84 #[Value.func (.func 44) #[] #[]] ∧ OM Tryz.prog 9 wr (w.heap.size + 1) (rows.length + k) (fun s => (f s).map (fun x : JobD => Value.agg #[Value.string x.name, Value.int .i64 x.prio, Value.int .i64 x.need, Value.int .i64 x.tries, Value.string x.tag])) ∧ Hid (IsM JobD.name f (M3 JobD.name rows set gone k))) (fun i _ => set.length - (intOf i).toNat)
          case atStart => exact ⟨0, f, Nat.zero_le _, rfl, hbr, bk, om, I0.out⟩
          case round =>
            clear I0 om bk hbr
            obtain ⟨k, f, hk, rfl, hbr, bk, om, HI⟩ := hrel
            by_cases hlt : k < set.length
            · have hx : set[k]? = some set[k] := List.getElem?_eq_getElem hlt
              have hsz := K2.out set[k] (List.getElem_mem hlt)
              generalize set[k] = x at *
              obtain ⟨a, rfl, hab, _, hat⟩ := (h2.below hbr).at_ (k := k) (r := rowJ x) (by rw [List.getElem?_map, hx]; rfl)
              have I2 := Lib.hid (HI.out.three S2.out hx)
              have bx := Blk.new wr 44 #[Value.string x.name, Value.int .i64 x.prio, Value.int .i64 x.need, Value.int .i64 x.tries, Value.string x.tag]
              have bk5 := bk.alloc (.cells #[Value.string x.name, Value.int .i64 x.prio, Value.int .i64 x.need, Value.int .i64 x.tries, Value.string x.tag] 44)
              have c5 := hbr.alloc hbr.size (.cells #[Value.string x.name, Value.int .i64 x.prio, Value.int .i64 x.need, Value.int .i64 x.tries, Value.string x.tag] 44)
              have om5 := om.below ((Below.refl _ wr).alloc (Nat.le_refl _) (.cells #[Value.string x.name, Value.int .i64 x.prio, Value.int .i64 x.need, Value.int .i64 x.tries, Value.string x.tag] 44))
              have hgx : wr.heap.size ≠ w.heap.size + 1 := by have := om.lt; omega
              have hsm : x.name.size ≤ maxLen := by unfold maxLen; omega
              have hgk : w.heap.size ≠ w.heap.size + 1 := by omega
              clear hx HI hbr bk om hsz
              go_upto_region 18 with (first | (refine wpList_load_at rfl _ _ rfl (a.add (k * 5)) rfl [Value.string x.name, Value.int .i64 x.prio, Value.int .i64 x.need, Value.int .i64 x.tries, Value.string x.tag] _ hat Tryz.underlying44 rfl job_size ?_) | (refine wpList_store_new rfl _ _ _ rfl rfl 44 _ #[Value.string x.name, Value.int .i64 x.prio, Value.int .i64 x.need, Value.int .i64 x.tries, Value.string x.tag] rfl job_size rfl rfl ?_))
              clear hat
              generalize wr.alloc _ = W5 at *
              generalize wr.heap.size = gx at *
              have G0 : GrB W5 (w.heap.size + 1) W5.drew := GrB.start _ _
              refine wp_region_held_drew (S := GrB W5 (w.heap.size + 1)) (by kernel_rfl) G0 (fun hHeld => ?_)
              refine wpAnyH_take (i := 0) (v := ?_) rfl (by kernel_rfl) (by kernel_rfl) (by kernel_rfl) (fun _ _ _ h => h) (Or.inl ⟨by rfl, ?_⟩) (by assumption) ?_
              rotate_left
              · (intro w5 hw5; (try dsimp only at hw5); have q0 := (GrB.blk hw5 bk5 hgk).cell 0; have k0 := (GrB.blk hw5 bx hgx).cell 0; have k1 := (GrB.blk hw5 bx hgx).cell 1; have k2 := (GrB.blk hw5 bx hgx).cell 2; have k3 := (GrB.blk hw5 bx hgx).cell 3; have k4 := (GrB.blk hw5 bx hgx).cell 4; go_simp; (try with_reducible rfl))
              (try simp only [Act.put, List.setIfInBounds_toArray, List.set_cons_zero, List.set_cons_succ, List.getElem_toArray, List.getElem_cons_zero, List.getElem_cons_succ])
              refine wpAnyH_take (i := 1) (v := ?_) rfl (by kernel_rfl) (by kernel_rfl) (by kernel_rfl) (fun _ _ _ h => h) (Or.inl ⟨by rfl, ?_⟩) (by assumption) ?_
              rotate_left
              · (intro w5 hw5; (try dsimp only at hw5); have q0 := (GrB.blk hw5 bk5 hgk).cell 0; have k0 := (GrB.blk hw5 bx hgx).cell 0; have k1 := (GrB.blk hw5 bx hgx).cell 1; have k2 := (GrB.blk hw5 bx hgx).cell 2; have k3 := (GrB.blk hw5 bx hgx).cell 3; have k4 := (GrB.blk hw5 bx hgx).cell 4; go_simp; (try with_reducible rfl))
              (try simp only [Act.put, List.setIfInBounds_toArray, List.set_cons_zero, List.set_cons_succ, List.getElem_toArray, List.getElem_cons_zero, List.getElem_cons_succ])
              refine wpAnyH_take (i := 2) (v := ?_) rfl (by kernel_rfl) (by kernel_rfl) (by kernel_rfl) (fun _ _ _ h => h) (Or.inl ⟨by rfl, ?_⟩) (by assumption) ?_
              rotate_left
              · (intro w5 hw5; (try dsimp only at hw5); have q0 := (GrB.blk hw5 bk5 hgk).cell 0; have k0 := (GrB.blk hw5 bx hgx).cell 0; have k1 := (GrB.blk hw5 bx hgx).cell 1; have k2 := (GrB.blk hw5 bx hgx).cell 2; have k3 := (GrB.blk hw5 bx hgx).cell 3; have k4 := (GrB.blk hw5 bx hgx).cell 4; go_simp; (try with_reducible rfl))
              (try simp only [Act.put, List.setIfInBounds_toArray, List.set_cons_zero, List.set_cons_succ, List.getElem_toArray, List.getElem_cons_zero, List.getElem_cons_succ])
              refine wpAnyH_take (i := 4) (v := ?_) rfl (by kernel_rfl) (by kernel_rfl) (by kernel_rfl) (fun _ _ _ h => h) (Or.inl ⟨by rfl, ?_⟩) (by assumption) ?_
              rotate_left
              · (intro w5 hw5; (try dsimp only at hw5); have q0 := (GrB.blk hw5 bk5 hgk).cell 0; have k0 := (GrB.blk hw5 bx hgx).cell 0; have k1 := (GrB.blk hw5 bx hgx).cell 1; have k2 := (GrB.blk hw5 bx hgx).cell 2; have k3 := (GrB.blk hw5 bx hgx).cell 3; have k4 := (GrB.blk hw5 bx hgx).cell 4; go_simp; (try with_reducible rfl))
              (try simp only [Act.put, List.setIfInBounds_toArray, List.set_cons_zero, List.set_cons_succ, List.getElem_toArray, List.getElem_cons_zero, List.getElem_cons_succ])
              refine wpAnyH_ready (rs := [3]) (by kernel_rfl) (by simp) ?_
              refine AllReadyH.cons rfl (fun K hK => ?_) AllReadyH.nil
              go_simp
              refine (HX.out x _).mono ?_
              rintro e u1 ⟨rfl, rfl⟩
              have G1 := GrB.more G0 ((Below.refl _ _).alloc (Nat.le_refl _) (.cells #[Value.string x.name, Value.int .i64 x.prio, Value.int .i64 x.need, Value.int .i64 x.tries, Value.string x.tag] 44))
              have om6 := om5.drew.below ((Below.refl _ _).alloc (Nat.le_refl _) (.cells #[Value.string x.name, Value.int .i64 x.prio, Value.int .i64 x.need, Value.int .i64 x.tries, Value.string x.tag] 44))
              generalize W5.drew.alloc _ = u1 at *
              refine hK.out _ _ ?_ (fun hHeld => ?_)
              · exact G1
              clear hK K
              (try simp only [Act.put, List.setIfInBounds_toArray, List.set_cons_zero, List.set_cons_succ, List.getElem_toArray, List.getElem_cons_zero, List.getElem_cons_succ])
              obtain ⟨u2, hr2, om7, hg2⟩ := om6.store (t := 118) Tryz.underlying118 Tryz.underlying9 (by unfold maxLen; omega) hsm (Value.agg #[Value.string x.name, Value.int .i64 x.prio, Value.int .i64 x.need, Value.int .i64 x.tries, Value.string x.tag])
              have G2 := G1.then_ hg2
              refine wpAnyH_ready (rs := [5]) (by kernel_rfl) (by simp) ?_
              refine AllReadyH.cons rfl (fun K hK => ?_) AllReadyH.nil
              refine step_map_put rfl 118 _ _ _ rfl rfl rfl rfl hr2 ?_
              refine hK.out _ _ ?_ (fun hHeld => ?_)
              · exact G2
              clear hK K
              (try simp only [Act.put, List.setIfInBounds_toArray, List.set_cons_zero, List.set_cons_succ, List.getElem_toArray, List.getElem_cons_zero, List.getElem_cons_succ])
              refine wpAnyH_done (by kernel_rfl) ?_ _
              have bk7 := GrB.blk G2 bk5 hgk
              have c7 : Below w.heap.size w u2 := c5.grown G2 c5.size (fun k e => by cases e; omega)
              have om8 := OM.put_ (g := (fun x : JobD => Value.agg #[Value.string x.name, Value.int .i64 x.prio, Value.int .i64 x.need, Value.int .i64 x.tries, Value.string x.tag])) om7
              clear G0 G1 G2 om5 om6 om7 bk5 c5 bx hr2 hg2
              go_wp2_with fail
              go_roundw
              case rel => exact ⟨k + 1, putX f x.name.data.toList x, by omega, by go_num, c7, bk7, om8, I2.out⟩
              case measure => simp [intOf]; omega
            · obtain rfl : k = set.length := by omega
              have HD := Lib.hid (fun ss ts ha hp hw => chg_done (ss := ss) (ts := ts) S1.out S2.out HI.out ha hp hw)
              clear HI
              go_upto_region 20 with fail
              have hml : w.heap.size + 1 < wr.heap.size := om.lt
              have hbx : (wr.alloc (.cells #[.map (some (w.heap.size + 1))] 118)).cell? ⟨wr.heap.size, 0, none⟩ = some (.map (some (w.heap.size + 1))) := (Blk.new wr 118 #[.map (some (w.heap.size + 1))]).cell 0
              have hb6 : Below wr.heap.size wr (wr.alloc (.cells #[.map (some (w.heap.size + 1))] 118)) := (Below.refl _ _).alloc (Nat.le_refl _) _
              have om6 := om.below hb6
              have bk6 := bk.below hb6 bk.lt
              have c6 := hbr.trans (hb6.mono hbr.size)
              have hs6 : (wr.alloc (.cells #[.map (some (w.heap.size + 1))] 118)).heap.size = wr.heap.size + 1 := by simp
              have HV := Lib.hid (valuesJ_any (some (w.heap.size + 1)) wr)
              have HS := Lib.hid (sortedJ_any w.heap.size wr.heap.size (w.heap.size + 1) (rows.length + set.length) f _ (bk6.cell 0) (by rw [hs6]; omega) (by rw [hs6]; omega) hbx om6 (by omega))
              clear hbx om6 bk6 hb6 om bk hbr
              go_wp2_with fail
              refine HV.out.mono ?_
              rintro e w6 ⟨rfl, rfl⟩
              go_wp2_with fail
              refine HS.out.mono ?_
              rintro e w7 ⟨v, ss, ts, rfl, hA, hp, hw, hrow, hb7⟩
              obtain rfl := HD.out ss ts hA hp hw
              have c7 := c6.trans (hb7.mono c6.size)
              obtain ⟨p, c, rfl, hO⟩ := ownR_flat rowJ_len hrow
              have hR : chgR JobD.name rows set gone = chgL JobD.name rows set gone := by unfold chgR; rw [hB.out]; rfl
              have hO2 := OwnR.lower hO c6.size
              clear hA hp hw hrow hO hb7 HS HD
              go_wp2_with fail
              go_ret2
              exact ⟨p, c, by rw [hR, hB.out]; rfl, by rw [hR]; exact hO2, c7⟩
end Go.Proofs.YtkommikehbbhbaaGreatDoor

/-
  The contract of delta.changed at nodes.
-/
set_option linter.unusedVariables false
set_option linter.unusedSimpArgs false
namespace Go.Proofs.YtkommikehbbhbaaGreatDoor
open Go.RowKit
set_option maxHeartbeats 8000000 in
set_option maxRecDepth 100000 in
theorem changedN_any (rows set : List NodeD) (gone : List ByteArray) (p1 p2 p3 : Option Addr) (c1 c2 c3 : Nat) (w : World) (h1 : Elts w w.heap.size 3 p1 (rows.map rowN)) (h2 : Elts w w.heap.size 3 p2 (set.map rowN)) (h3 : Elts w w.heap.size 1 p3 (gone.map rowS))
    (l1 : rows.length ≤ 1000) (l2 : set.length ≤ 1000) (l3 : gone.length ≤ 1000) (s1 : Sorted NodeD.name rows) (s2 : Sorted NodeD.name set) (s3 : Sorted (fun s : ByteArray => s) gone)
    (k1 : ∀ x ∈ rows, x.name.size ≤ 16) (k2 : ∀ x ∈ set, x.name.size ≤ 16) (k3 : ∀ s ∈ gone, s.size ≤ 16) :
    Calls Tryz.prog 45 #[.slice p1 rows.length c1, .slice p2 set.length c2, .slice p3 gone.length c3, .func (.func 46) #[] #[]] w fun e w' =>
      ∃ p c, e = .returned (.tuple #[.slice p (chgR NodeD.name rows set gone).length c, .bool (chgB NodeD.name rows gone)]) ∧ OwnR w' w.heap.size 46 3 p c ((chgR NodeD.name rows set gone).map rowN) ∧ Below w.heap.size w w' := by
  have e1 : (w.alloc (.cells #[Value.func (.func 46) #[] #[]] 87)).heap.size = w.heap.size + 1 := by simp
  have om0 := OM.made (w.alloc (.cells #[Value.func (.func 46) #[] #[]] 87)) Tryz.prog 9
  rw [e1] at om0
  have bk0 := (Blk.new w 87 #[Value.func (.func 46) #[] #[]]).alloc (.map #[] 0)
  have b0 : Below w.heap.size w ((w.alloc (.cells #[Value.func (.func 46) #[] #[]] 87)).alloc (.map #[] 0)) := ((Below.refl _ _).alloc (Nat.le_refl _) _).alloc (by simp) _
  clear e1
  have S1 := Lib.hid s1
  have S2 := Lib.hid s2
  have S3 := Lib.hid s3
  have K1 := Lib.hid k1
  have K2 := Lib.hid k2
  have K3 := Lib.hid k3
  have HX := Lib.hid (fun (x : NodeD) (W : World) => keyxN_any x W)
  have HZ := Lib.hid (fun W => zeroN_lit W)
  clear s1 s2 s3 k1 k2 k3
  have hmm := @run_makeMap Tryz.prog
  go_enter Tryz.func45, Tryz.ntmps45
  go_wp2_with fail
  generalize (w.alloc _).alloc _ = W0 at *
  go_loopw [22] (fun i wr => ∃ (k : Nat) (f : List UInt8 → Option NodeD), k ≤ rows.length ∧ i = .int .i64 k ∧ Below w.heap.size w wr ∧ Blk wr w.heap.size 87 #[Value.func (.func 46) #[] #[]] ∧ OM Tryz.prog 9 wr (w.heap.size + 1) k (fun s => (f s).map (fun x : NodeD => Value.agg #[Value.string x.name, Value.int .i64 x.room, Value.string x.zone])) ∧ Hid (IsM NodeD.name f (M1 rows k))) (fun i _ => rows.length - (intOf i).toNat)
  case atStart => exact ⟨0, fun _ => none, Nat.zero_le _, rfl, b0, bk0, om0, (show IsM NodeD.name _ (M1 rows 0) from IsM.start)⟩
  case round =>
    clear b0 bk0 om0
    obtain ⟨k, f, hk, rfl, hbr, bk, om, HI⟩ := hrel
    by_cases hlt : k < rows.length
    · have hx : rows[k]? = some rows[k] := List.getElem?_eq_getElem hlt
      have hsz := K1.out rows[k] (List.getElem_mem hlt)
      generalize rows[k] = x at *
      obtain ⟨a, rfl, hab, _, hat⟩ := (h1.below hbr).at_ (k := k) (r := rowN x) (by rw [List.getElem?_map, hx]; rfl)
      have I2 := Lib.hid (HI.out.one S1.out hx)
      have bx := Blk.new wr 46 #[Value.string x.name, Value.int .i64 x.room, Value.string x.zone]
      have bk5 := bk.alloc (.cells #[Value.string x.name, Value.int .i64 x.room, Value.string x.zone] 46)
      have c5 := hbr.alloc hbr.size (.cells #[Value.string x.name, Value.int .i64 x.room, Value.string x.zone] 46)
      have om5 := om.below ((Below.refl _ wr).alloc (Nat.le_refl _) (.cells #[Value.string x.name, Value.int .i64 x.room, Value.string x.zone] 46))
      have hgx : wr.heap.size ≠ w.heap.size + 1 := by have := om.lt; omega
      have hsm : x.name.size ≤ maxLen := by unfold maxLen; omega
      have hgk : w.heap.size ≠ w.heap.size + 1 := by omega
      clear hx HI hbr bk om hsz
      go_upto_region 5 with (first | (refine wpList_load_at rfl _ _ rfl (a.add (k * 3)) rfl [Value.string x.name, Value.int .i64 x.room, Value.string x.zone] _ hat Tryz.underlying46 rfl node_size ?_) | (refine wpList_store_new rfl _ _ _ rfl rfl 46 _ #[Value.string x.name, Value.int .i64 x.room, Value.string x.zone] rfl node_size rfl rfl ?_))
      clear hat
      generalize wr.alloc _ = W5 at *
      generalize wr.heap.size = gx at *
      have G0 : GrB W5 (w.heap.size + 1) W5.drew := GrB.start _ _
      refine wp_region_held_drew (S := GrB W5 (w.heap.size + 1)) (by kernel_rfl) G0 (fun hHeld => ?_)
      refine wpAnyH_take (i := 0) (v := ?_) rfl (by kernel_rfl) (by kernel_rfl) (by kernel_rfl) (fun _ _ _ h => h) (Or.inl ⟨by rfl, ?_⟩) (by assumption) ?_
      rotate_left
      · (intro w5 hw5; (try dsimp only at hw5); have q0 := (GrB.blk hw5 bk5 hgk).cell 0; have k0 := (GrB.blk hw5 bx hgx).cell 0; have k1 := (GrB.blk hw5 bx hgx).cell 1; have k2 := (GrB.blk hw5 bx hgx).cell 2; go_simp; (try with_reducible rfl))
      (try simp only [Act.put, List.setIfInBounds_toArray, List.set_cons_zero, List.set_cons_succ, List.getElem_toArray, List.getElem_cons_zero, List.getElem_cons_succ])
      refine wpAnyH_take (i := 1) (v := ?_) rfl (by kernel_rfl) (by kernel_rfl) (by kernel_rfl) (fun _ _ _ h => h) (Or.inl ⟨by rfl, ?_⟩) (by assumption) ?_
      rotate_left
      · (intro w5 hw5; (try dsimp only at hw5); have q0 := (GrB.blk hw5 bk5 hgk).cell 0; have k0 := (GrB.blk hw5 bx hgx).cell 0; have k1 := (GrB.blk hw5 bx hgx).cell 1; have k2 := (GrB.blk hw5 bx hgx).cell 2; go_simp; (try with_reducible rfl))
      (try simp only [Act.put, List.setIfInBounds_toArray, List.set_cons_zero, List.set_cons_succ, List.getElem_toArray, List.getElem_cons_zero, List.getElem_cons_succ])
      refine wpAnyH_take (i := 2) (v := ?_) rfl (by kernel_rfl) (by kernel_rfl) (by kernel_rfl) (fun _ _ _ h => h) (Or.inl ⟨by rfl, ?_⟩) (by assumption) ?_
      rotate_left
      · (intro w5 hw5; (try dsimp only at hw5); have q0 := (GrB.blk hw5 bk5 hgk).cell 0; have k0 := (GrB.blk hw5 bx hgx).cell 0; have k1 := (GrB.blk hw5 bx hgx).cell 1; have k2 := (GrB.blk hw5 bx hgx).cell 2; go_simp; (try with_reducible rfl))
      (try simp only [Act.put, List.setIfInBounds_toArray, List.set_cons_zero, List.set_cons_succ, List.getElem_toArray, List.getElem_cons_zero, List.getElem_cons_succ])
      refine wpAnyH_take (i := 4) (v := ?_) rfl (by kernel_rfl) (by kernel_rfl) (by kernel_rfl) (fun _ _ _ h => h) (Or.inl ⟨by rfl, ?_⟩) (by assumption) ?_
      rotate_left
      · (intro w5 hw5; (try dsimp only at hw5); have q0 := (GrB.blk hw5 bk5 hgk).cell 0; have k0 := (GrB.blk hw5 bx hgx).cell 0; have k1 := (GrB.blk hw5 bx hgx).cell 1; have k2 := (GrB.blk hw5 bx hgx).cell 2; go_simp; (try with_reducible rfl))
      (try simp only [Act.put, List.setIfInBounds_toArray, List.set_cons_zero, List.set_cons_succ, List.getElem_toArray, List.getElem_cons_zero, List.getElem_cons_succ])
      refine wpAnyH_ready (rs := [3]) (by kernel_rfl) (by simp) ?_
      refine AllReadyH.cons rfl (fun K hK => ?_) AllReadyH.nil
      go_simp
      refine (HX.out x _).mono ?_
      rintro e u1 ⟨rfl, rfl⟩
      have G1 := GrB.more G0 ((Below.refl _ _).alloc (Nat.le_refl _) (.cells #[Value.string x.name, Value.int .i64 x.room, Value.string x.zone] 46))
      have om6 := om5.drew.below ((Below.refl _ _).alloc (Nat.le_refl _) (.cells #[Value.string x.name, Value.int .i64 x.room, Value.string x.zone] 46))
      generalize W5.drew.alloc _ = u1 at *
      refine hK.out _ _ ?_ (fun hHeld => ?_)
      · exact G1
      clear hK K
      (try simp only [Act.put, List.setIfInBounds_toArray, List.set_cons_zero, List.set_cons_succ, List.getElem_toArray, List.getElem_cons_zero, List.getElem_cons_succ])
      obtain ⟨u2, hr2, om7, hg2⟩ := om6.store (t := 126) Tryz.underlying126 Tryz.underlying9 (by unfold maxLen; omega) hsm (Value.agg #[Value.string x.name, Value.int .i64 x.room, Value.string x.zone])
      have G2 := G1.then_ hg2
      refine wpAnyH_ready (rs := [5]) (by kernel_rfl) (by simp) ?_
      refine AllReadyH.cons rfl (fun K hK => ?_) AllReadyH.nil
      refine step_map_put rfl 126 _ _ _ rfl rfl rfl rfl hr2 ?_
      refine hK.out _ _ ?_ (fun hHeld => ?_)
      · exact G2
      clear hK K
      (try simp only [Act.put, List.setIfInBounds_toArray, List.set_cons_zero, List.set_cons_succ, List.getElem_toArray, List.getElem_cons_zero, List.getElem_cons_succ])
      refine wpAnyH_done (by kernel_rfl) ?_ _
      have bk7 := GrB.blk G2 bk5 hgk
      have c7 : Below w.heap.size w u2 := c5.grown G2 c5.size (fun k e => by cases e; omega)
      have om8 := OM.put_ (g := (fun x : NodeD => Value.agg #[Value.string x.name, Value.int .i64 x.room, Value.string x.zone])) om7
      clear G0 G1 G2 om5 om6 om7 bk5 c5 bx hr2 hg2
      go_wp2_with fail
      go_roundw
      case rel => exact ⟨k + 1, putX f x.name.data.toList x, by omega, by go_num, c7, bk7, om8, I2.out⟩
      case measure => simp [intOf]; omega
    · obtain rfl : k = rows.length := by omega
      have I0 := Lib.hid (HI.out.all (gone := gone))
      clear HI
      go_wp2_with fail
      clear hlt
      obtain ⟨wo, rfl⟩ : ∃ wo : World, wo = wr := ⟨_, rfl⟩
      go_loopw [34] (fun i wr => ∃ (k : Nat) (f : List UInt8 → Option NodeD), k ≤ gone.length ∧ i = .int .i64 k ∧ Below w.heap.size w wr ∧ Blk wr w.heap.size 87 #[Value.func (.func 46) #[] #[]] ∧ OM Tryz.prog 9 wr (w.heap.size + 1) rows.length (fun s => (f s).map (fun x : NodeD => Value.agg #[Value.string x.name, Value.int .i64 x.room, Value.string x.zone])) ∧ Hid (IsM NodeD.name f (M2 NodeD.name rows gone k) ∧ ∀ s ∈ gone.take k, ∃ x ∈ rows, x.name = s)) (fun i _ => gone.length - (intOf i).toNat)
      case atStart => exact ⟨0, f, Nat.zero_le _, rfl, hbr, bk, om, (show IsM NodeD.name f (M2 NodeD.name rows gone 0) ∧ _ from ⟨I0.out, fun s hs => by simp at hs⟩)⟩
      case round =>
        clear I0 om bk hbr
        obtain ⟨k, f, hk, rfl, hbr, bk, om, HI⟩ := hrel
        by_cases hlt : k < gone.length
        · have hx : gone[k]? = some gone[k] := List.getElem?_eq_getElem hlt
          have hsz := K3.out gone[k] (List.getElem_mem hlt)
          generalize gone[k] = s at *
          obtain ⟨a, rfl, hab, _, hat⟩ := (h3.below hbr).at_ (k := k) (r := rowS s) (by rw [List.getElem?_map, hx]; rfl)
          have e1 := at_one hat
          have hsm : s.size ≤ maxLen := by unfold maxLen; omega
          have hlk := om.look (t := 126) Tryz.underlying126 Tryz.underlying9 (HZ.out _) hsm
          clear hat hsz
          cases hf : f s.data.toList with
          | none =>
            have hB := Lib.hid (gone_missing S3.out hx (HI.out.1.at_none hf))
            simp only [hf, Option.map_none, Option.getD_none, Option.isSome_none] at hlk
            have c5 := hbr.alloc hbr.size (.cells #[Value.string ByteArray.empty, Value.int .i64 0, Value.string ByteArray.empty] 46)
            clear hf hx HI
            go_wp2_with (first | (refine wpList_store_new rfl _ _ _ rfl rfl 46 _ #[Value.string ByteArray.empty, Value.int .i64 0, Value.string ByteArray.empty] rfl node_size rfl rfl ?_))
            go_ret2
            have hR : chgR NodeD.name rows set gone = [] := by unfold chgR; rw [hB.out]; rfl
            exact ⟨none, 0, by rw [hR, hB.out]; rfl, by rw [hR]; exact ⟨fun r hr => by simp at hr, World.ownsRow_nil _ _ _ _⟩, c5⟩
          | some x =>
            have I2 := Lib.hid (And.intro (HI.out.1.two hx) (gone_step hx HI.out.2 (HI.out.1.at_some hf)))
            simp only [hf, Option.map_some, Option.getD_some, Option.isSome_some] at hlk
            have c5 := hbr.alloc hbr.size (.cells #[Value.string x.name, Value.int .i64 x.room, Value.string x.zone] 46)
            have bk5 := bk.alloc (.cells #[Value.string x.name, Value.int .i64 x.room, Value.string x.zone] 46)
            obtain ⟨u2, hr2, om7, hg2⟩ := (om.below ((Below.refl _ _).alloc (Nat.le_refl _) (.cells #[Value.string x.name, Value.int .i64 x.room, Value.string x.zone] 46))).drop (t := 126) Tryz.underlying126 Tryz.underlying9 hsm 0
            have om8 := OM.del_ (g := (fun x : NodeD => Value.agg #[Value.string x.name, Value.int .i64 x.room, Value.string x.zone])) om7
            have c7 : Below w.heap.size w u2 := c5.grown hg2 c5.size (fun k e => by cases e; omega)
            have bk7 : Blk u2 w.heap.size 87 #[Value.func (.func 46) #[] #[]] := (hg2.block _ bk5.lt (fun e => by injection e with e; omega)).trans bk5
            clear hf hx HI om7 hg2 c5 bk5
            go_wp2_with (first | (refine wpList_store_new rfl _ _ _ rfl rfl 46 _ #[Value.string x.name, Value.int .i64 x.room, Value.string x.zone] rfl node_size rfl rfl ?_))
            go_roundw
            case rel => exact ⟨k + 1, delX f s.data.toList, by omega, by go_num, c7, bk7, om8, I2.out⟩
            case measure => simp [intOf]; omega
        · obtain rfl : k = gone.length := by omega
          have hB := Lib.hid (gone_there HI.out.2)
          have I0 := Lib.hid (HI.out.1.left (set := set))
          clear HI
          go_wp2_with fail
          clear hlt
          obtain ⟨wp, rfl⟩ : ∃ wp : World, wp = wr := ⟨_, rfl⟩
          go_loopw [51] (fun i wr => ∃ (k : Nat) (f : List UInt8 → Option NodeD), k ≤ set.length ∧ i = .int .i64 k ∧ Below w.heap.size w wr ∧ Blk wr w.heap.size 87 #[Value.func (.func 46) #[] #[]] ∧ OM Tryz.prog 9 wr (w.heap.size + 1) (rows.length + k) (fun s => (f s).map (fun x : NodeD => Value.agg #[Value.string x.name, Value.int .i64 x.room, Value.string x.zone])) ∧ Hid (IsM NodeD.name f (M3 NodeD.name rows set gone k))) (fun i _ => set.length - (intOf i).toNat)
          case atStart => exact ⟨0, f, Nat.zero_le _, rfl, hbr, bk, om, I0.out⟩
          case round =>
            clear I0 om bk hbr
            obtain ⟨k, f, hk, rfl, hbr, bk, om, HI⟩ := hrel
            by_cases hlt : k < set.length
            · have hx : set[k]? = some set[k] := List.getElem?_eq_getElem hlt
              have hsz := K2.out set[k] (List.getElem_mem hlt)
              generalize set[k] = x at *
              obtain ⟨a, rfl, hab, _, hat⟩ := (h2.below hbr).at_ (k := k) (r := rowN x) (by rw [List.getElem?_map, hx]; rfl)
              have I2 := Lib.hid (HI.out.three S2.out hx)
              have bx := Blk.new wr 46 #[Value.string x.name, Value.int .i64 x.room, Value.string x.zone]
              have bk5 := bk.alloc (.cells #[Value.string x.name, Value.int .i64 x.room, Value.string x.zone] 46)
              have c5 := hbr.alloc hbr.size (.cells #[Value.string x.name, Value.int .i64 x.room, Value.string x.zone] 46)
              have om5 := om.below ((Below.refl _ wr).alloc (Nat.le_refl _) (.cells #[Value.string x.name, Value.int .i64 x.room, Value.string x.zone] 46))
              have hgx : wr.heap.size ≠ w.heap.size + 1 := by have := om.lt; omega
              have hsm : x.name.size ≤ maxLen := by unfold maxLen; omega
              have hgk : w.heap.size ≠ w.heap.size + 1 := by omega
              clear hx HI hbr bk om hsz
              go_upto_region 18 with (first | (refine wpList_load_at rfl _ _ rfl (a.add (k * 3)) rfl [Value.string x.name, Value.int .i64 x.room, Value.string x.zone] _ hat Tryz.underlying46 rfl node_size ?_) | (refine wpList_store_new rfl _ _ _ rfl rfl 46 _ #[Value.string x.name, Value.int .i64 x.room, Value.string x.zone] rfl node_size rfl rfl ?_))
              clear hat
              generalize wr.alloc _ = W5 at *
              generalize wr.heap.size = gx at *
              have G0 : GrB W5 (w.heap.size + 1) W5.drew := GrB.start _ _
              refine wp_region_held_drew (S := GrB W5 (w.heap.size + 1)) (by kernel_rfl) G0 (fun hHeld => ?_)
              refine wpAnyH_take (i := 0) (v := ?_) rfl (by kernel_rfl) (by kernel_rfl) (by kernel_rfl) (fun _ _ _ h => h) (Or.inl ⟨by rfl, ?_⟩) (by assumption) ?_
              rotate_left
              · (intro w5 hw5; (try dsimp only at hw5); have q0 := (GrB.blk hw5 bk5 hgk).cell 0; have k0 := (GrB.blk hw5 bx hgx).cell 0; have k1 := (GrB.blk hw5 bx hgx).cell 1; have k2 := (GrB.blk hw5 bx hgx).cell 2; go_simp; (try with_reducible rfl))
              (try simp only [Act.put, List.setIfInBounds_toArray, List.set_cons_zero, List.set_cons_succ, List.getElem_toArray, List.getElem_cons_zero, List.getElem_cons_succ])
              refine wpAnyH_take (i := 1) (v := ?_) rfl (by kernel_rfl) (by kernel_rfl) (by kernel_rfl) (fun _ _ _ h => h) (Or.inl ⟨by rfl, ?_⟩) (by assumption) ?_
              rotate_left
              · (intro w5 hw5; (try dsimp only at hw5); have q0 := (GrB.blk hw5 bk5 hgk).cell 0; have k0 := (GrB.blk hw5 bx hgx).cell 0; have k1 := (GrB.blk hw5 bx hgx).cell 1; have k2 := (GrB.blk hw5 bx hgx).cell 2; go_simp; (try with_reducible rfl))
              (try simp only [Act.put, List.setIfInBounds_toArray, List.set_cons_zero, List.set_cons_succ, List.getElem_toArray, List.getElem_cons_zero, List.getElem_cons_succ])
              refine wpAnyH_take (i := 2) (v := ?_) rfl (by kernel_rfl) (by kernel_rfl) (by kernel_rfl) (fun _ _ _ h => h) (Or.inl ⟨by rfl, ?_⟩) (by assumption) ?_
              rotate_left
              · (intro w5 hw5; (try dsimp only at hw5); have q0 := (GrB.blk hw5 bk5 hgk).cell 0; have k0 := (GrB.blk hw5 bx hgx).cell 0; have k1 := (GrB.blk hw5 bx hgx).cell 1; have k2 := (GrB.blk hw5 bx hgx).cell 2; go_simp; (try with_reducible rfl))
              (try simp only [Act.put, List.setIfInBounds_toArray, List.set_cons_zero, List.set_cons_succ, List.getElem_toArray, List.getElem_cons_zero, List.getElem_cons_succ])
              refine wpAnyH_take (i := 4) (v := ?_) rfl (by kernel_rfl) (by kernel_rfl) (by kernel_rfl) (fun _ _ _ h => h) (Or.inl ⟨by rfl, ?_⟩) (by assumption) ?_
              rotate_left
              · (intro w5 hw5; (try dsimp only at hw5); have q0 := (GrB.blk hw5 bk5 hgk).cell 0; have k0 := (GrB.blk hw5 bx hgx).cell 0; have k1 := (GrB.blk hw5 bx hgx).cell 1; have k2 := (GrB.blk hw5 bx hgx).cell 2; go_simp; (try with_reducible rfl))
              (try simp only [Act.put, List.setIfInBounds_toArray, List.set_cons_zero, List.set_cons_succ, List.getElem_toArray, List.getElem_cons_zero, List.getElem_cons_succ])
              refine wpAnyH_ready (rs := [3]) (by kernel_rfl) (by simp) ?_
              refine AllReadyH.cons rfl (fun K hK => ?_) AllReadyH.nil
              go_simp
              refine (HX.out x _).mono ?_
              rintro e u1 ⟨rfl, rfl⟩
              have G1 := GrB.more G0 ((Below.refl _ _).alloc (Nat.le_refl _) (.cells #[Value.string x.name, Value.int .i64 x.room, Value.string x.zone] 46))
              have om6 := om5.drew.below ((Below.refl _ _).alloc (Nat.le_refl _) (.cells #[Value.string x.name, Value.int .i64 x.room, Value.string x.zone] 46))
              generalize W5.drew.alloc _ = u1 at *
              refine hK.out _ _ ?_ (fun hHeld => ?_)
              · exact G1
              clear hK K
              (try simp only [Act.put, List.setIfInBounds_toArray, List.set_cons_zero, List.set_cons_succ, List.getElem_toArray, List.getElem_cons_zero, List.getElem_cons_succ])
              obtain ⟨u2, hr2, om7, hg2⟩ := om6.store (t := 126) Tryz.underlying126 Tryz.underlying9 (by unfold maxLen; omega) hsm (Value.agg #[Value.string x.name, Value.int .i64 x.room, Value.string x.zone])
              have G2 := G1.then_ hg2
              refine wpAnyH_ready (rs := [5]) (by kernel_rfl) (by simp) ?_
              refine AllReadyH.cons rfl (fun K hK => ?_) AllReadyH.nil
              refine step_map_put rfl 126 _ _ _ rfl rfl rfl rfl hr2 ?_
              refine hK.out _ _ ?_ (fun hHeld => ?_)
              · exact G2
              clear hK K
              (try simp only [Act.put, List.setIfInBounds_toArray, List.set_cons_zero, List.set_cons_succ, List.getElem_toArray, List.getElem_cons_zero, List.getElem_cons_succ])
              refine wpAnyH_done (by kernel_rfl) ?_ _
              have bk7 := GrB.blk G2 bk5 hgk
              have c7 : Below w.heap.size w u2 := c5.grown G2 c5.size (fun k e => by cases e; omega)
              have om8 := OM.put_ (g := (fun x : NodeD => Value.agg #[Value.string x.name, Value.int .i64 x.room, Value.string x.zone])) om7
              clear G0 G1 G2 om5 om6 om7 bk5 c5 bx hr2 hg2
              go_wp2_with fail
              go_roundw
              case rel => exact ⟨k + 1, putX f x.name.data.toList x, by omega, by go_num, c7, bk7, om8, I2.out⟩
              case measure => simp [intOf]; omega
            · obtain rfl : k = set.length := by omega
              have HD := Lib.hid (fun ss ts ha hp hw => chg_done (ss := ss) (ts := ts) S1.out S2.out HI.out ha hp hw)
              clear HI
              go_upto_region 20 with fail
              have hml : w.heap.size + 1 < wr.heap.size := om.lt
              have hbx : (wr.alloc (.cells #[.map (some (w.heap.size + 1))] 126)).cell? ⟨wr.heap.size, 0, none⟩ = some (.map (some (w.heap.size + 1))) := (Blk.new wr 126 #[.map (some (w.heap.size + 1))]).cell 0
              have hb6 : Below wr.heap.size wr (wr.alloc (.cells #[.map (some (w.heap.size + 1))] 126)) := (Below.refl _ _).alloc (Nat.le_refl _) _
              have om6 := om.below hb6
              have bk6 := bk.below hb6 bk.lt
              have c6 := hbr.trans (hb6.mono hbr.size)
              have hs6 : (wr.alloc (.cells #[.map (some (w.heap.size + 1))] 126)).heap.size = wr.heap.size + 1 := by simp
              have HV := Lib.hid (valuesN_any (some (w.heap.size + 1)) wr)
              have HS := Lib.hid (sortedN_any w.heap.size wr.heap.size (w.heap.size + 1) (rows.length + set.length) f _ (bk6.cell 0) (by rw [hs6]; omega) (by rw [hs6]; omega) hbx om6 (by omega))
              clear hbx om6 bk6 hb6 om bk hbr
              go_wp2_with fail
              refine HV.out.mono ?_
              rintro e w6 ⟨rfl, rfl⟩
              go_wp2_with fail
              refine HS.out.mono ?_
              rintro e w7 ⟨v, ss, ts, rfl, hA, hp, hw, hrow, hb7⟩
              obtain rfl := HD.out ss ts hA hp hw
              have c7 := c6.trans (hb7.mono c6.size)
              obtain ⟨p, c, rfl, hO⟩ := ownR_flat rowN_len hrow
              have hR : chgR NodeD.name rows set gone = chgL NodeD.name rows set gone := by unfold chgR; rw [hB.out]; rfl
              have hO2 := OwnR.lower hO c6.size
              clear hA hp hw hrow hO hb7 HS HD
              go_wp2_with fail
              go_ret2
              exact ⟨p, c, by rw [hR, hB.out]; rfl, by rw [hR]; exact hO2, c7⟩
end Go.Proofs.YtkommikehbbhbaaGreatDoor

/-
  The contract of delta.changed at leases.
-/
set_option linter.unusedVariables false
set_option linter.unusedSimpArgs false
namespace Go.Proofs.YtkommikehbbhbaaGreatDoor
open Go.RowKit
set_option maxHeartbeats 8000000 in
set_option maxRecDepth 100000 in
theorem changedL_any (rows set : List LeaseD) (gone : List ByteArray) (p1 p2 p3 : Option Addr) (c1 c2 c3 : Nat) (w : World) (h1 : Elts w w.heap.size 3 p1 (rows.map rowL)) (h2 : Elts w w.heap.size 3 p2 (set.map rowL)) (h3 : Elts w w.heap.size 1 p3 (gone.map rowS))
    (l1 : rows.length ≤ 1000) (l2 : set.length ≤ 1000) (l3 : gone.length ≤ 1000) (s1 : Sorted LeaseD.job rows) (s2 : Sorted LeaseD.job set) (s3 : Sorted (fun s : ByteArray => s) gone)
    (k1 : ∀ x ∈ rows, x.job.size ≤ 16) (k2 : ∀ x ∈ set, x.job.size ≤ 16) (k3 : ∀ s ∈ gone, s.size ≤ 16) :
    Calls Tryz.prog 47 #[.slice p1 rows.length c1, .slice p2 set.length c2, .slice p3 gone.length c3, .func (.func 48) #[] #[]] w fun e w' =>
      ∃ p c, e = .returned (.tuple #[.slice p (chgR LeaseD.job rows set gone).length c, .bool (chgB LeaseD.job rows gone)]) ∧ OwnR w' w.heap.size 48 3 p c ((chgR LeaseD.job rows set gone).map rowL) ∧ Below w.heap.size w w' := by
  have e1 : (w.alloc (.cells #[Value.func (.func 48) #[] #[]] 90)).heap.size = w.heap.size + 1 := by simp
  have om0 := OM.made (w.alloc (.cells #[Value.func (.func 48) #[] #[]] 90)) Tryz.prog 9
  rw [e1] at om0
  have bk0 := (Blk.new w 90 #[Value.func (.func 48) #[] #[]]).alloc (.map #[] 0)
  have b0 : Below w.heap.size w ((w.alloc (.cells #[Value.func (.func 48) #[] #[]] 90)).alloc (.map #[] 0)) := ((Below.refl _ _).alloc (Nat.le_refl _) _).alloc (by simp) _
  clear e1
  have S1 := Lib.hid s1
  have S2 := Lib.hid s2
  have S3 := Lib.hid s3
  have K1 := Lib.hid k1
  have K2 := Lib.hid k2
  have K3 := Lib.hid k3
  have HX := Lib.hid (fun (x : LeaseD) (W : World) => keyxL_any x W)
  have HZ := Lib.hid (fun W => zeroL_lit W)
  clear s1 s2 s3 k1 k2 k3
  have hmm := @run_makeMap Tryz.prog
  go_enter Tryz.func47, Tryz.ntmps47
  go_wp2_with fail
  generalize (w.alloc _).alloc _ = W0 at *
  go_loopw [22] (fun i wr => ∃ (k : Nat) (f : List UInt8 → Option LeaseD), k ≤ rows.length ∧ i = .int .i64 k ∧ Below w.heap.size w wr ∧ Blk wr w.heap.size 90 #[Value.func (.func 48) #[] #[]] ∧ OM Tryz.prog 9 wr (w.heap.size + 1) k (fun s => (f s).map (fun x : LeaseD => Value.agg #[Value.string x.job, Value.string x.node, Value.int .i64 x.till])) ∧ Hid (IsM LeaseD.job f (M1 rows k))) (fun i _ => rows.length - (intOf i).toNat)
  case atStart => exact ⟨0, fun _ => none, Nat.zero_le _, rfl, b0, bk0, om0, (show IsM LeaseD.job _ (M1 rows 0) from IsM.start)⟩
  case round =>
    clear b0 bk0 om0
    obtain ⟨k, f, hk, rfl, hbr, bk, om, HI⟩ := hrel
    by_cases hlt : k < rows.length
    · have hx : rows[k]? = some rows[k] := List.getElem?_eq_getElem hlt
      have hsz := K1.out rows[k] (List.getElem_mem hlt)
      generalize rows[k] = x at *
      obtain ⟨a, rfl, hab, _, hat⟩ := (h1.below hbr).at_ (k := k) (r := rowL x) (by rw [List.getElem?_map, hx]; rfl)
      have I2 := Lib.hid (HI.out.one S1.out hx)
      have bx := Blk.new wr 48 #[Value.string x.job, Value.string x.node, Value.int .i64 x.till]
      have bk5 := bk.alloc (.cells #[Value.string x.job, Value.string x.node, Value.int .i64 x.till] 48)
      have c5 := hbr.alloc hbr.size (.cells #[Value.string x.job, Value.string x.node, Value.int .i64 x.till] 48)
      have om5 := om.below ((Below.refl _ wr).alloc (Nat.le_refl _) (.cells #[Value.string x.job, Value.string x.node, Value.int .i64 x.till] 48))
      have hgx : wr.heap.size ≠ w.heap.size + 1 := by have := om.lt; omega
      have hsm : x.job.size ≤ maxLen := by unfold maxLen; omega
      have hgk : w.heap.size ≠ w.heap.size + 1 := by omega
      clear hx HI hbr bk om hsz
      go_upto_region 5 with (first | (refine wpList_load_at rfl _ _ rfl (a.add (k * 3)) rfl [Value.string x.job, Value.string x.node, Value.int .i64 x.till] _ hat Tryz.underlying48 rfl lease_size ?_) | (refine wpList_store_new rfl _ _ _ rfl rfl 48 _ #[Value.string x.job, Value.string x.node, Value.int .i64 x.till] rfl lease_size rfl rfl ?_))
      clear hat
      generalize wr.alloc _ = W5 at *
      generalize wr.heap.size = gx at *
      have G0 : GrB W5 (w.heap.size + 1) W5.drew := GrB.start _ _
      refine wp_region_held_drew (S := GrB W5 (w.heap.size + 1)) (by kernel_rfl) G0 (fun hHeld => ?_)
      refine wpAnyH_take (i := 0) (v := ?_) rfl (by kernel_rfl) (by kernel_rfl) (by kernel_rfl) (fun _ _ _ h => h) (Or.inl ⟨by rfl, ?_⟩) (by assumption) ?_
      rotate_left
      · (intro w5 hw5; (try dsimp only at hw5); have q0 := (GrB.blk hw5 bk5 hgk).cell 0; have k0 := (GrB.blk hw5 bx hgx).cell 0; have k1 := (GrB.blk hw5 bx hgx).cell 1; have k2 := (GrB.blk hw5 bx hgx).cell 2; go_simp; (try with_reducible rfl))
      (try simp only [Act.put, List.setIfInBounds_toArray, List.set_cons_zero, List.set_cons_succ, List.getElem_toArray, List.getElem_cons_zero, List.getElem_cons_succ])
      refine wpAnyH_take (i := 1) (v := ?_) rfl (by kernel_rfl) (by kernel_rfl) (by kernel_rfl) (fun _ _ _ h => h) (Or.inl ⟨by rfl, ?_⟩) (by assumption) ?_
      rotate_left
      · (intro w5 hw5; (try dsimp only at hw5); have q0 := (GrB.blk hw5 bk5 hgk).cell 0; have k0 := (GrB.blk hw5 bx hgx).cell 0; have k1 := (GrB.blk hw5 bx hgx).cell 1; have k2 := (GrB.blk hw5 bx hgx).cell 2; go_simp; (try with_reducible rfl))
      (try simp only [Act.put, List.setIfInBounds_toArray, List.set_cons_zero, List.set_cons_succ, List.getElem_toArray, List.getElem_cons_zero, List.getElem_cons_succ])
      refine wpAnyH_take (i := 2) (v := ?_) rfl (by kernel_rfl) (by kernel_rfl) (by kernel_rfl) (fun _ _ _ h => h) (Or.inl ⟨by rfl, ?_⟩) (by assumption) ?_
      rotate_left
      · (intro w5 hw5; (try dsimp only at hw5); have q0 := (GrB.blk hw5 bk5 hgk).cell 0; have k0 := (GrB.blk hw5 bx hgx).cell 0; have k1 := (GrB.blk hw5 bx hgx).cell 1; have k2 := (GrB.blk hw5 bx hgx).cell 2; go_simp; (try with_reducible rfl))
      (try simp only [Act.put, List.setIfInBounds_toArray, List.set_cons_zero, List.set_cons_succ, List.getElem_toArray, List.getElem_cons_zero, List.getElem_cons_succ])
      refine wpAnyH_take (i := 4) (v := ?_) rfl (by kernel_rfl) (by kernel_rfl) (by kernel_rfl) (fun _ _ _ h => h) (Or.inl ⟨by rfl, ?_⟩) (by assumption) ?_
      rotate_left
      · (intro w5 hw5; (try dsimp only at hw5); have q0 := (GrB.blk hw5 bk5 hgk).cell 0; have k0 := (GrB.blk hw5 bx hgx).cell 0; have k1 := (GrB.blk hw5 bx hgx).cell 1; have k2 := (GrB.blk hw5 bx hgx).cell 2; go_simp; (try with_reducible rfl))
      (try simp only [Act.put, List.setIfInBounds_toArray, List.set_cons_zero, List.set_cons_succ, List.getElem_toArray, List.getElem_cons_zero, List.getElem_cons_succ])
      refine wpAnyH_ready (rs := [3]) (by kernel_rfl) (by simp) ?_
      refine AllReadyH.cons rfl (fun K hK => ?_) AllReadyH.nil
      go_simp
      refine (HX.out x _).mono ?_
      rintro e u1 ⟨rfl, rfl⟩
      have G1 := GrB.more G0 ((Below.refl _ _).alloc (Nat.le_refl _) (.cells #[Value.string x.job, Value.string x.node, Value.int .i64 x.till] 48))
      have om6 := om5.drew.below ((Below.refl _ _).alloc (Nat.le_refl _) (.cells #[Value.string x.job, Value.string x.node, Value.int .i64 x.till] 48))
      generalize W5.drew.alloc _ = u1 at *
      refine hK.out _ _ ?_ (fun hHeld => ?_)
      · exact G1
      clear hK K
      (try simp only [Act.put, List.setIfInBounds_toArray, List.set_cons_zero, List.set_cons_succ, List.getElem_toArray, List.getElem_cons_zero, List.getElem_cons_succ])
      obtain ⟨u2, hr2, om7, hg2⟩ := om6.store (t := 133) Tryz.underlying133 Tryz.underlying9 (by unfold maxLen; omega) hsm (Value.agg #[Value.string x.job, Value.string x.node, Value.int .i64 x.till])
      have G2 := G1.then_ hg2
      refine wpAnyH_ready (rs := [5]) (by kernel_rfl) (by simp) ?_
      refine AllReadyH.cons rfl (fun K hK => ?_) AllReadyH.nil
      refine step_map_put rfl 133 _ _ _ rfl rfl rfl rfl hr2 ?_
      refine hK.out _ _ ?_ (fun hHeld => ?_)
      · exact G2
      clear hK K
      (try simp only [Act.put, List.setIfInBounds_toArray, List.set_cons_zero, List.set_cons_succ, List.getElem_toArray, List.getElem_cons_zero, List.getElem_cons_succ])
      refine wpAnyH_done (by kernel_rfl) ?_ _
      have bk7 := GrB.blk G2 bk5 hgk
      have c7 : Below w.heap.size w u2 := c5.grown G2 c5.size (fun k e => by cases e; omega)
      have om8 := OM.put_ (g := (fun x : LeaseD => Value.agg #[Value.string x.job, Value.string x.node, Value.int .i64 x.till])) om7
      clear G0 G1 G2 om5 om6 om7 bk5 c5 bx hr2 hg2
      go_wp2_with fail
      go_roundw
      case rel => exact ⟨k + 1, putX f x.job.data.toList x, by omega, by go_num, c7, bk7, om8, I2.out⟩
      case measure => simp [intOf]; omega
    · obtain rfl : k = rows.length := by omega
      have I0 := Lib.hid (HI.out.all (gone := gone))
      clear HI
      go_wp2_with fail
      clear hlt
      obtain ⟨wo, rfl⟩ : ∃ wo : World, wo = wr := ⟨_, rfl⟩
      go_loopw [34] (fun i wr => ∃ (k : Nat) (f : List UInt8 → Option LeaseD), k ≤ gone.length ∧ i = .int .i64 k ∧ Below w.heap.size w wr ∧ Blk wr w.heap.size 90 #[Value.func (.func 48) #[] #[]] ∧ OM Tryz.prog 9 wr (w.heap.size + 1) rows.length (fun s => (f s).map (fun x : LeaseD => Value.agg #[Value.string x.job, Value.string x.node, Value.int .i64 x.till])) ∧ Hid (IsM LeaseD.job f (M2 LeaseD.job rows gone k) ∧ ∀ s ∈ gone.take k, ∃ x ∈ rows, x.job = s)) (fun i _ => gone.length - (intOf i).toNat)
      case atStart => exact ⟨0, f, Nat.zero_le _, rfl, hbr, bk, om, (show IsM LeaseD.job f (M2 LeaseD.job rows gone 0) ∧ _ from ⟨I0.out, fun s hs => by simp at hs⟩)⟩
      case round =>
        clear I0 om bk hbr
        obtain ⟨k, f, hk, rfl, hbr, bk, om, HI⟩ := hrel
        by_cases hlt : k < gone.length
        · have hx : gone[k]? = some gone[k] := List.getElem?_eq_getElem hlt
          have hsz := K3.out gone[k] (List.getElem_mem hlt)
          generalize gone[k] = s at *
          obtain ⟨a, rfl, hab, _, hat⟩ := (h3.below hbr).at_ (k := k) (r := rowS s) (by rw [List.getElem?_map, hx]; rfl)
          have e1 := at_one hat
          have hsm : s.size ≤ maxLen := by unfold maxLen; omega
          have hlk := om.look (t := 133) Tryz.underlying133 Tryz.underlying9 (HZ.out _) hsm
          clear hat hsz
          cases hf : f s.data.toList with
          | none =>
            have hB := Lib.hid (gone_missing S3.out hx (HI.out.1.at_none hf))
            simp only [hf, Option.map_none, Option.getD_none, Option.isSome_none] at hlk
            have c5 := hbr.alloc hbr.size (.cells #[Value.string ByteArray.empty, Value.string ByteArray.empty, Value.int .i64 0] 48)
            clear hf hx HI
            go_wp2_with (first | (refine wpList_store_new rfl _ _ _ rfl rfl 48 _ #[Value.string ByteArray.empty, Value.string ByteArray.empty, Value.int .i64 0] rfl lease_size rfl rfl ?_))
            go_ret2
            have hR : chgR LeaseD.job rows set gone = [] := by unfold chgR; rw [hB.out]; rfl
            exact ⟨none, 0, by rw [hR, hB.out]; rfl, by rw [hR]; exact ⟨fun r hr => by simp at hr, World.ownsRow_nil _ _ _ _⟩, c5⟩
          | some x =>
            have I2 := Lib.hid (And.intro (HI.out.1.two hx) (gone_step hx HI.out.2 (HI.out.1.at_some hf)))
            simp only [hf, Option.map_some, Option.getD_some, Option.isSome_some] at hlk
            have c5 := hbr.alloc hbr.size (.cells #[Value.string x.job, Value.string x.node, Value.int .i64 x.till] 48)
            have bk5 := bk.alloc (.cells #[Value.string x.job, Value.string x.node, Value.int .i64 x.till] 48)
            obtain ⟨u2, hr2, om7, hg2⟩ := (om.below ((Below.refl _ _).alloc (Nat.le_refl _) (.cells #[Value.string x.job, Value.string x.node, Value.int .i64 x.till] 48))).drop (t := 133) Tryz.underlying133 Tryz.underlying9 hsm 0
            have om8 := OM.del_ (g := (fun x : LeaseD => Value.agg #[Value.string x.job, Value.string x.node, Value.int .i64 x.till])) om7
            have c7 : Below w.heap.size w u2 := c5.grown hg2 c5.size (fun k e => by cases e; omega)
            have bk7 : Blk u2 w.heap.size 90 #[Value.func (.func 48) #[] #[]] := (hg2.block _ bk5.lt (fun e => by injection e with e; omega)).trans bk5
            clear hf hx HI om7 hg2 c5 bk5
            go_wp2_with (first | (refine wpList_store_new rfl _ _ _ rfl rfl 48 _ #[Value.string x.job, Value.string x.node, Value.int .i64 x.till] rfl lease_size rfl rfl ?_))
            go_roundw
            case rel => exact ⟨k + 1, delX f s.data.toList, by omega, by go_num, c7, bk7, om8, I2.out⟩
            case measure => simp [intOf]; omega
        · obtain rfl : k = gone.length := by omega
          have hB := Lib.hid (gone_there HI.out.2)
          have I0 := Lib.hid (HI.out.1.left (set := set))
          clear HI
          go_wp2_with fail
          clear hlt
          obtain ⟨wp, rfl⟩ : ∃ wp : World, wp = wr := ⟨_, rfl⟩
          go_loopw [51] (fun i wr => ∃ (k : Nat) (f : List UInt8 → Option LeaseD), k ≤ set.length ∧ i = .int .i64 k ∧ Below w.heap.size w wr ∧ Blk wr w.heap.size 90 #[Value.func (.func 48) #[] #[]] ∧ OM Tryz.prog 9 wr (w.heap.size + 1) (rows.length + k) (fun s => (f s).map (fun x : LeaseD => Value.agg #[Value.string x.job, Value.string x.node, Value.int .i64 x.till])) ∧ Hid (IsM LeaseD.job f (M3 LeaseD.job rows set gone k))) (fun i _ => set.length - (intOf i).toNat)
          case atStart => exact ⟨0, f, Nat.zero_le _, rfl, hbr, bk, om, I0.out⟩
          case round =>
            clear I0 om bk hbr
            obtain ⟨k, f, hk, rfl, hbr, bk, om, HI⟩ := hrel
            by_cases hlt : k < set.length
            · have hx : set[k]? = some set[k] := List.getElem?_eq_getElem hlt
              have hsz := K2.out set[k] (List.getElem_mem hlt)
              generalize set[k] = x at *
              obtain ⟨a, rfl, hab, _, hat⟩ := (h2.below hbr).at_ (k := k) (r := rowL x) (by rw [List.getElem?_map, hx]; rfl)
              have I2 := Lib.hid (HI.out.three S2.out hx)
              have bx := Blk.new wr 48 #[Value.string x.job, Value.string x.node, Value.int .i64 x.till]
              have bk5 := bk.alloc (.cells #[Value.string x.job, Value.string x.node, Value.int .i64 x.till] 48)
              have c5 := hbr.alloc hbr.size (.cells #[Value.string x.job, Value.string x.node, Value.int .i64 x.till] 48)
              have om5 := om.below ((Below.refl _ wr).alloc (Nat.le_refl _) (.cells #[Value.string x.job, Value.string x.node, Value.int .i64 x.till] 48))
              have hgx : wr.heap.size ≠ w.heap.size + 1 := by have := om.lt; omega
              have hsm : x.job.size ≤ maxLen := by unfold maxLen; omega
              have hgk : w.heap.size ≠ w.heap.size + 1 := by omega
              clear hx HI hbr bk om hsz
              go_upto_region 18 with (first | (refine wpList_load_at rfl _ _ rfl (a.add (k * 3)) rfl [Value.string x.job, Value.string x.node, Value.int .i64 x.till] _ hat Tryz.underlying48 rfl lease_size ?_) | (refine wpList_store_new rfl _ _ _ rfl rfl 48 _ #[Value.string x.job, Value.string x.node, Value.int .i64 x.till] rfl lease_size rfl rfl ?_))
              clear hat
              generalize wr.alloc _ = W5 at *
              generalize wr.heap.size = gx at *
              have G0 : GrB W5 (w.heap.size + 1) W5.drew := GrB.start _ _
              refine wp_region_held_drew (S := GrB W5 (w.heap.size + 1)) (by kernel_rfl) G0 (fun hHeld => ?_)
              refine wpAnyH_take (i := 0) (v := ?_) rfl (by kernel_rfl) (by kernel_rfl) (by kernel_rfl) (fun _ _ _ h => h) (Or.inl ⟨by rfl, ?_⟩) (by assumption) ?_
              rotate_left
              · (intro w5 hw5; (try dsimp only at hw5); have q0 := (GrB.blk hw5 bk5 hgk).cell 0; have k0 := (GrB.blk hw5 bx hgx).cell 0; have k1 := (GrB.blk hw5 bx hgx).cell 1; have k2 := (GrB.blk hw5 bx hgx).cell 2; go_simp; (try with_reducible rfl))
              (try simp only [Act.put, List.setIfInBounds_toArray, List.set_cons_zero, List.set_cons_succ, List.getElem_toArray, List.getElem_cons_zero, List.getElem_cons_succ])
              refine wpAnyH_take (i := 1) (v := ?_) rfl (by kernel_rfl) (by kernel_rfl) (by kernel_rfl) (fun _ _ _ h => h) (Or.inl ⟨by rfl, ?_⟩) (by assumption) ?_
              rotate_left
              · (intro w5 hw5; (try dsimp only at hw5); have q0 := (GrB.blk hw5 bk5 hgk).cell 0; have k0 := (GrB.blk hw5 bx hgx).cell 0; have k1 := (GrB.blk hw5 bx hgx).cell 1; have k2 := (GrB.blk hw5 bx hgx).cell 2; go_simp; (try with_reducible rfl))
              (try simp only [Act.put, List.setIfInBounds_toArray, List.set_cons_zero, List.set_cons_succ, List.getElem_toArray, List.getElem_cons_zero, List.getElem_cons_succ])
              refine wpAnyH_take (i := 2) (v := ?_) rfl (by kernel_rfl) (by kernel_rfl) (by kernel_rfl) (fun _ _ _ h => h) (Or.inl ⟨by rfl, ?_⟩) (by assumption) ?_
              rotate_left
              · (intro w5 hw5; (try dsimp only at hw5); have q0 := (GrB.blk hw5 bk5 hgk).cell 0; have k0 := (GrB.blk hw5 bx hgx).cell 0; have k1 := (GrB.blk hw5 bx hgx).cell 1; have k2 := (GrB.blk hw5 bx hgx).cell 2; go_simp; (try with_reducible rfl))
              (try simp only [Act.put, List.setIfInBounds_toArray, List.set_cons_zero, List.set_cons_succ, List.getElem_toArray, List.getElem_cons_zero, List.getElem_cons_succ])
              refine wpAnyH_take (i := 4) (v := ?_) rfl (by kernel_rfl) (by kernel_rfl) (by kernel_rfl) (fun _ _ _ h => h) (Or.inl ⟨by rfl, ?_⟩) (by assumption) ?_
              rotate_left
              · (intro w5 hw5; (try dsimp only at hw5); have q0 := (GrB.blk hw5 bk5 hgk).cell 0; have k0 := (GrB.blk hw5 bx hgx).cell 0; have k1 := (GrB.blk hw5 bx hgx).cell 1; have k2 := (GrB.blk hw5 bx hgx).cell 2; go_simp; (try with_reducible rfl))
              (try simp only [Act.put, List.setIfInBounds_toArray, List.set_cons_zero, List.set_cons_succ, List.getElem_toArray, List.getElem_cons_zero, List.getElem_cons_succ])
              refine wpAnyH_ready (rs := [3]) (by kernel_rfl) (by simp) ?_
              refine AllReadyH.cons rfl (fun K hK => ?_) AllReadyH.nil
              go_simp
              refine (HX.out x _).mono ?_
              rintro e u1 ⟨rfl, rfl⟩
              have G1 := GrB.more G0 ((Below.refl _ _).alloc (Nat.le_refl _) (.cells #[Value.string x.job, Value.string x.node, Value.int .i64 x.till] 48))
              have om6 := om5.drew.below ((Below.refl _ _).alloc (Nat.le_refl _) (.cells #[Value.string x.job, Value.string x.node, Value.int .i64 x.till] 48))
              generalize W5.drew.alloc _ = u1 at *
              refine hK.out _ _ ?_ (fun hHeld => ?_)
              · exact G1
              clear hK K
              (try simp only [Act.put, List.setIfInBounds_toArray, List.set_cons_zero, List.set_cons_succ, List.getElem_toArray, List.getElem_cons_zero, List.getElem_cons_succ])
              obtain ⟨u2, hr2, om7, hg2⟩ := om6.store (t := 133) Tryz.underlying133 Tryz.underlying9 (by unfold maxLen; omega) hsm (Value.agg #[Value.string x.job, Value.string x.node, Value.int .i64 x.till])
              have G2 := G1.then_ hg2
              refine wpAnyH_ready (rs := [5]) (by kernel_rfl) (by simp) ?_
              refine AllReadyH.cons rfl (fun K hK => ?_) AllReadyH.nil
              refine step_map_put rfl 133 _ _ _ rfl rfl rfl rfl hr2 ?_
              refine hK.out _ _ ?_ (fun hHeld => ?_)
              · exact G2
              clear hK K
              (try simp only [Act.put, List.setIfInBounds_toArray, List.set_cons_zero, List.set_cons_succ, List.getElem_toArray, List.getElem_cons_zero, List.getElem_cons_succ])
              refine wpAnyH_done (by kernel_rfl) ?_ _
              have bk7 := GrB.blk G2 bk5 hgk
              have c7 : Below w.heap.size w u2 := c5.grown G2 c5.size (fun k e => by cases e; omega)
              have om8 := OM.put_ (g := (fun x : LeaseD => Value.agg #[Value.string x.job, Value.string x.node, Value.int .i64 x.till])) om7
              clear G0 G1 G2 om5 om6 om7 bk5 c5 bx hr2 hg2
              go_wp2_with fail
              go_roundw
              case rel => exact ⟨k + 1, putX f x.job.data.toList x, by omega, by go_num, c7, bk7, om8, I2.out⟩
              case measure => simp [intOf]; omega
            · obtain rfl : k = set.length := by omega
              have HD := Lib.hid (fun ss ts ha hp hw => chg_done (ss := ss) (ts := ts) S1.out S2.out HI.out ha hp hw)
              clear HI
              go_upto_region 20 with fail
              have hml : w.heap.size + 1 < wr.heap.size := om.lt
              have hbx : (wr.alloc (.cells #[.map (some (w.heap.size + 1))] 133)).cell? ⟨wr.heap.size, 0, none⟩ = some (.map (some (w.heap.size + 1))) := (Blk.new wr 133 #[.map (some (w.heap.size + 1))]).cell 0
              have hb6 : Below wr.heap.size wr (wr.alloc (.cells #[.map (some (w.heap.size + 1))] 133)) := (Below.refl _ _).alloc (Nat.le_refl _) _
              have om6 := om.below hb6
              have bk6 := bk.below hb6 bk.lt
              have c6 := hbr.trans (hb6.mono hbr.size)
              have hs6 : (wr.alloc (.cells #[.map (some (w.heap.size + 1))] 133)).heap.size = wr.heap.size + 1 := by simp
              have HV := Lib.hid (valuesL_any (some (w.heap.size + 1)) wr)
              have HS := Lib.hid (sortedL_any w.heap.size wr.heap.size (w.heap.size + 1) (rows.length + set.length) f _ (bk6.cell 0) (by rw [hs6]; omega) (by rw [hs6]; omega) hbx om6 (by omega))
              clear hbx om6 bk6 hb6 om bk hbr
              go_wp2_with fail
              refine HV.out.mono ?_
              rintro e w6 ⟨rfl, rfl⟩
              go_wp2_with fail
              refine HS.out.mono ?_
              rintro e w7 ⟨v, ss, ts, rfl, hA, hp, hw, hrow, hb7⟩
              obtain rfl := HD.out ss ts hA hp hw
              have c7 := c6.trans (hb7.mono c6.size)
              obtain ⟨p, c, rfl, hO⟩ := ownR_flat rowL_len hrow
              have hR : chgR LeaseD.job rows set gone = chgL LeaseD.job rows set gone := by unfold chgR; rw [hB.out]; rfl
              have hO2 := OwnR.lower hO c6.size
              clear hA hp hw hrow hO hb7 HS HD
              go_wp2_with fail
              go_ret2
              exact ⟨p, c, by rw [hR, hB.out]; rfl, by rw [hR]; exact hO2, c7⟩
end Go.Proofs.YtkommikehbbhbaaGreatDoor
