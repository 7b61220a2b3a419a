/-
  Several texts in one: ChgP.
-/
import Derived.Test.YtaioadbenigdpaaGreatDoorPkDelA
set_option linter.unusedVariables false
set_option linter.unusedSimpArgs false
set_option maxHeartbeats 16000000
set_option maxRecDepth 100000
namespace Go.Proofs.YtaioadbenigdpaaGreatDoor
section
variable {α : Type} {key : α → ByteArray}
theorem ltS_asymm {a b : ByteArray} (h : ltS a b = true) : ltS b a = false := by
 cases h2 : ltS b a
 ·rfl
 ·have := ltS_trans h h2
  rw [ltS_irrefl] at this; cases this
theorem sorted_uniq : ∀ {l : List α}, Sorted key l → ∀ {x y : α}, x ∈ l → y ∈ l → key x = key y → x = y
 | [], _, x, y, hx, _, _ => by cases hx
 | z :: r, h, x, y, hx, hy, he => by
  obtain ⟨h1, h2⟩ := List.pairwise_cons.1 h
  rcases List.mem_cons.1 hx with e1 | hx1
  ·rcases List.mem_cons.1 hy with e2 | hy1
   ·rw [e1, e2]
   ·have := h1 y hy1; rw [← e1, he, ltS_irrefl] at this; cases this
  ·rcases List.mem_cons.1 hy with e2 | hy1
   ·have := h1 x hx1; rw [← e2, he, ltS_irrefl] at this; cases this
   ·exact sorted_uniq h2 hx1 hy1 he
theorem sorted_ext : ∀ {a b : List α}, Sorted key a → Sorted key b → (∀ x, x ∈ a ↔ x ∈ b) → a = b
 | [], [], _, _, _ => rfl
 | [], y :: t, _, _, h => by have := (h y).2 List.mem_cons_self; cases this
 | x :: r, [], _, _, h => by have := (h x).1 List.mem_cons_self; cases this
 | x :: r, y :: t, ha, hb, h => by
  obtain ⟨a1, a2⟩ := List.pairwise_cons.1 ha
  obtain ⟨b1, b2⟩ := List.pairwise_cons.1 hb
  have hxy : x = y := by
   rcases List.mem_cons.1 ((h x).1 List.mem_cons_self) with e | hx
   ·exact e
   ·rcases List.mem_cons.1 ((h y).2 List.mem_cons_self) with e | hy
    ·exact e.symm
    ·have h1 := a1 y hy
     have h2 := b1 x hx
     rw [ltS_asymm h1] at h2; cases h2
  subst hxy
  congr 1
  refine sorted_ext a2 b2 fun z => ⟨fun hz => ?_, fun hz => ?_⟩
  ·rcases List.mem_cons.1 ((h z).1 (List.mem_cons_of_mem _ hz)) with rfl | hz'
   ·have := a1 z hz; rw [ltS_irrefl] at this; cases this
   ·exact hz'
  ·rcases List.mem_cons.1 ((h z).2 (List.mem_cons_of_mem _ hz)) with rfl | hz'
   ·have := b1 z hz; rw [ltS_irrefl] at this; cases this
   ·exact hz'
def IsChg (key : α → ByteArray) (rows set : List α) (gone : List ByteArray) (r : List α) : Prop :=
 Sorted key r ∧ ∀ x, x ∈ r ↔ (x ∈ set ∨ (x ∈ rows ∧ key x ∉ gone ∧ ∀ y ∈ set, key y ≠ key x))
def AllIn (key : α → ByteArray) (rows : List α) (gone : List ByteArray) : Prop := ∀ s ∈ gone, ∃ x ∈ rows, key x = s
theorem IsChg.uniq {rows set : List α} {gone : List ByteArray} {a b : List α} (h1 : IsChg key rows set gone a) (h2 : IsChg key rows set gone b) : a = b :=
 sorted_ext h1.1 h2.1 fun x => (h1.2 x).trans (h2.2 x).symm
def chgB (key : α → ByteArray) (rows : List α) (gone : List ByteArray) : Bool := gone.all fun s => rows.any fun x => decide (key x = s)
theorem chgB_iff {rows : List α} {gone : List ByteArray} : chgB key rows gone = true ↔ AllIn key rows gone := by
 unfold chgB AllIn
 rw [List.all_eq_true]
 constructor
 ·intro h s hs
  obtain ⟨x, hx, he⟩ := List.any_eq_true.1 (h s hs)
  exact ⟨x, hx, of_decide_eq_true he⟩
 ·intro h s hs
  obtain ⟨x, hx, he⟩ := h s hs
  exact List.any_eq_true.2 ⟨x, hx, decide_eq_true he⟩
def chgL (key : α → ByteArray) (rows set : List α) (gone : List ByteArray) : List α :=
 ((rows.filter fun x => !(gone.any fun s => decide (s = key x)) && !(set.any fun y => decide (key y = key x))) ++ set).mergeSort fun x y => !ltS (key y) (key x)
theorem keys_pw : ∀ {l : List α}, l.Pairwise (fun x y => ltS (key y) (key x) = false) → l.Pairwise (fun x y => key x ≠ key y) → Sorted key l := by
 intro l h1 h2
 exact (h1.and h2).imp fun {x y} h => by
  rcases ltS_total (key x) (key y) with h' | h' | h'
  ·exact h'
  ·exact absurd h' h.2
  ·rw [h'] at h; exact absurd h.1 (by simp)
theorem chgL_is {rows set : List α} {gone : List ByteArray} (hr : Sorted key rows) (hs : Sorted key set) : IsChg key rows set gone (chgL key rows set gone) := by
 have hp := List.mergeSort_perm ((rows.filter fun x => !(gone.any fun s => decide (s = key x)) && !(set.any fun y => decide (key y = key x))) ++ set) (fun x y => !ltS (key y) (key x))
 constructor
 ·refine keys_pw ?_ ?_
  ·have := List.pairwise_mergeSort (le := fun x y : α => !ltS (key y) (key x)) ?_ ?_ ((rows.filter fun x => !(gone.any fun s => decide (s = key x)) && !(set.any fun y => decide (key y = key x))) ++ set)
   ·exact this.imp fun h => by simpa using h
   ·intro x y z h1 h2
    simp only [Bool.not_eq_true'] at *
    rcases ltS_total (key z) (key x) with h | h | h
    ·rcases ltS_total (key x) (key y) with h' | h' | h'
     ·rw [ltS_trans h h'] at h2; cases h2
     ·rw [← h'] at h2; exact h2
     ·rw [h'] at h1; cases h1
    ·rw [h]; exact ltS_irrefl _
    ·exact ltS_asymm h
   ·intro x y
    cases h : ltS (key y) (key x)
    ·rfl
    ·rw [ltS_asymm h]; rfl
  ·refine (hp.pairwise_iff (fun h => Ne.symm h)).2 ?_
   rw [List.pairwise_append]
   refine ⟨List.Pairwise.sublist List.filter_sublist (hr.imp fun h => ltS_ne h), hs.imp fun h => ltS_ne h, ?_⟩
   intro x hx y hy he
   have := (List.mem_filter.1 hx).2
   simp only [Bool.and_eq_true, Bool.not_eq_true'] at this
   have h2 := List.any_eq_false.1 this.2 y hy
   exact h2 (decide_eq_true he.symm)
 ·intro x
  rw [show x ∈ chgL key rows set gone ↔ _ from hp.mem_iff, List.mem_append, List.mem_filter]
  simp only [Bool.and_eq_true, Bool.not_eq_true', List.any_eq_false, decide_eq_true_eq]
  constructor
  ·rintro (⟨h1, h2, h3⟩ | h)
   ·exact .inr ⟨h1, fun h => h2 _ h rfl, fun y hy => h3 y hy⟩
   ·exact .inl h
  ·rintro (h | ⟨h1, h2, h3⟩)
   ·exact .inr h
   ·exact .inl ⟨h1, fun s hs he => h2 (he ▸ hs), fun y hy => h3 y hy⟩
theorem chgL_eq {rows set : List α} {gone : List ByteArray} {r : List α} (hr : Sorted key rows) (hs : Sorted key set) (h : IsChg key rows set gone r) : chgL key rows set gone = r := (chgL_is hr hs).uniq h
theorem chgL_len {rows set : List α} {gone : List ByteArray} : (chgL key rows set gone).length ≤ rows.length + set.length := by
 unfold chgL
 rw [List.length_mergeSort, List.length_append]
 have := List.length_filter_le (fun x => !(gone.any fun s => decide (s = key x)) && !(set.any fun y => decide (key y = key x))) rows
 omega
theorem betw_is [DecidableEq α] {a b : List α} (ha : Sorted key a) (hb : Sorted key b) : IsChg key a (setOf a b) (goneOf key a b) b := by
 refine ⟨hb, fun x => ⟨fun hx => ?_, ?_⟩⟩
 ·by_cases hxa : x ∈ a
  ·refine .inr ⟨hxa, fun hg => ?_, fun y hy he => ?_⟩
   ·exact (goneOf_mem.1 hg).2 x hx rfl
   ·obtain ⟨h1, h2⟩ := setOf_mem.1 hy
    have := sorted_uniq hb h1 hx he
    exact h2 (this ▸ hxa)
  ·exact .inl (setOf_mem.2 ⟨hx, hxa⟩)
 ·rintro (h | ⟨h1, h2, h3⟩)
  ·exact (setOf_mem.1 h).1
  ·by_cases hg : ∃ y ∈ b, key y = key x
   ·obtain ⟨y, hy, he⟩ := hg
    by_cases hya : y ∈ a
    ·rw [sorted_uniq ha h1 hya he.symm]; exact hy
    ·exact absurd he (h3 y (setOf_mem.2 ⟨hy, hya⟩))
   ·exact absurd (goneOf_mem.2 ⟨⟨x, h1, rfl⟩, fun y hy he => hg ⟨y, hy, he⟩⟩) h2
theorem betw_in {a b : List α} : AllIn key a (goneOf key a b) := fun s hs => (goneOf_mem.1 hs).1
theorem setOf_sorted [DecidableEq α] {a b : List α} (h : Sorted key b) : Sorted key (setOf a b) := List.Pairwise.sublist List.filter_sublist h
theorem goneOf_sorted {a b : List α} (h : Sorted key a) : Sorted (fun s : ByteArray => s) (goneOf key a b) := by
 unfold goneOf Sorted
 rw [List.pairwise_map]
 exact List.Pairwise.sublist List.filter_sublist h
end
theorem goneE_as (has : ByteArray → Bool) : ∀ (l : List ByteArray) (p : Option ByteArray), goneE has p l = 0 ↔ rowsE (fun s : ByteArray => s) (fun s => if nameOk s = false then 4 else if has s = true then 7 else 0) p l = 0
 | [], p => by simp [goneE, rowsE]
 | s :: r, p => by
  have ih := goneE_as has r (some s)
  unfold goneE rowsE
  cases hn : nameOk s
  ·simp
  ·cases hb : badOrd (fun s : ByteArray => s) p s
   ·cases hh : has s
    ·simpa using ih
    ·simp
   ·cases hh : has s <;> simp
theorem goneE_ok {has : ByteArray → Bool} {l : List ByteArray} : goneE has none l = 0 ↔ (∀ s ∈ l, nameOk s = true ∧ has s = false) ∧ Sorted (fun s : ByteArray => s) l := by
 rw [goneE_as, rowsE_ok]
 refine and_congr (forall_congr' fun s => imp_congr_right fun _ => ?_) Iff.rfl
 cases nameOk s <;> cases has s <;> simp
theorem firstE_all : ∀ {l : List Nat}, (∀ e ∈ l, e = 0) → firstE l = 0
 | [], _ => rfl
 | x :: r, h => by
  unfold firstE
  rw [if_neg (by simpa using h x List.mem_cons_self)]
  exact firstE_all fun e he => h e (List.mem_cons_of_mem _ he)
theorem jobE_name {x : JobD} (h : jobE x = 0) : nameOk x.name = true := by
 unfold jobE at h
 cases hn : nameOk x.name
 ·rw [hn] at h; simp at h
 ·rfl
theorem nodeE_name {x : NodeD} (h : nodeE x = 0) : nameOk x.name = true := by
 unfold nodeE at h
 cases hn : nameOk x.name
 ·rw [hn] at h; simp at h
 ·rfl
theorem leaseE_C {s : St} (hs : Fine s) {x : LeaseD} (hx : x ∈ s.leases) : leaseC x = 0 := by
 have h := hs.l x hx
 unfold leaseE at h
 cases h1 : jobAt s.jobs x.job with
 | none => rw [h1] at h; simp at h
 | some j =>
  cases h2 : nodeAt s.nodes x.node with
  | none => rw [h1, h2] at h; simp at h
  | some n =>
   rw [h1, h2] at h
   have hj := List.mem_of_find?_eq_some h1
   have hj2 := List.find?_some h1
   have hn := List.mem_of_find?_eq_some h2
   have hn2 := List.find?_some h2
   have e1 : nameOk x.job = true := by rw [← of_decide_eq_true hj2]; exact jobE_name (hs.j j hj)
   have e2 : nameOk x.node = true := by rw [← of_decide_eq_true hn2]; exact nodeE_name (hs.n n hn)
   unfold leaseC
   rw [e1, e2]
   simpa using h
theorem leaseC_name {x : LeaseD} (h : leaseC x = 0) : nameOk x.job = true := by
 unfold leaseC at h
 cases hn : nameOk x.job
 ·rw [hn] at h; simp at h
 ·rfl
theorem has_false {α : Type} [DecidableEq α] {key : α → ByteArray} {a b : List α} {s : ByteArray} (h : s ∈ goneOf key a b) : ((setOf a b).any fun x => decide (key x = s)) = false := by
 rw [List.any_eq_false]
 intro x hx he
 exact (goneOf_mem.1 h).2 x (setOf_mem.1 hx).1 (of_decide_eq_true he)
theorem betw_ok {a b : St} (ha : checkE a = 0) (hb : checkE b = 0) (h : a.rev < b.rev) : deltaE (betw a b) = 0 := by
 have fa := (fine_iff a).1 ha
 have fb := (fine_iff b).1 hb
 have r1 : revOk (betw a b) := ⟨fa.rev, h, fb.rev.2⟩
 have r2 : lenOk (betw a b) :=
  ⟨⟨Nat.le_trans (setOf_len _ _) fb.nj, Nat.le_trans (setOf_len _ _) fb.nl, Nat.le_trans (goneOf_len _ _ _) fa.nj, Nat.le_trans (goneOf_len _ _ _) fa.nl⟩, Nat.le_trans (setOf_len _ _) fb.nn, Nat.le_trans (goneOf_len _ _ _) fa.nn⟩
 unfold deltaE
 rw [if_neg (by simpa using r1), if_neg (by simpa using r2)]
 refine firstE_all fun e he => ?_
 simp only [deltaEs, List.mem_cons, List.mem_nil_iff, or_false] at he
 rcases he with rfl | rfl | rfl | rfl | rfl | rfl
 ·exact rowsE_ok.2 ⟨fun x hx => fb.j x (setOf_mem.1 hx).1, setOf_sorted fb.sj⟩
 ·exact rowsE_ok.2 ⟨fun x hx => fb.n x (setOf_mem.1 hx).1, setOf_sorted fb.sn⟩
 ·exact rowsE_ok.2 ⟨fun x hx => leaseE_C fb (setOf_mem.1 hx).1, setOf_sorted fb.sl⟩
 ·refine goneE_ok.2 ⟨fun s hs => ⟨?_, has_false hs⟩, goneOf_sorted fa.sj⟩
  obtain ⟨⟨x, hx, rfl⟩, _⟩ := goneOf_mem.1 hs
  exact jobE_name (fa.j x hx)
 ·refine goneE_ok.2 ⟨fun s hs => ⟨?_, has_false hs⟩, goneOf_sorted fa.sn⟩
  obtain ⟨⟨x, hx, rfl⟩, _⟩ := goneOf_mem.1 hs
  exact nodeE_name (fa.n x hx)
 ·refine goneE_ok.2 ⟨fun s hs => ⟨?_, has_false hs⟩, goneOf_sorted fa.sl⟩
  obtain ⟨⟨x, hx, rfl⟩, _⟩ := goneOf_mem.1 hs
  exact leaseC_name (leaseE_C fa hx)
def chgSt (s : St) (d : DeltaD) : St := ⟨d.upto, chgL JobD.name s.jobs d.jobs d.gj, chgL NodeD.name s.nodes d.nodes d.gn, chgL LeaseD.job s.leases d.leases d.gl⟩
def chgAll (s : St) (d : DeltaD) : Bool := chgB JobD.name s.jobs d.gj && chgB NodeD.name s.nodes d.gn && chgB LeaseD.job s.leases d.gl
def applyE (s : St) (d : DeltaD) : Nat :=
 if checkE s ≠ 0 then checkE s else if deltaE d ≠ 0 then deltaE d else if d.frm ≠ s.rev then 10 else if chgAll s d = true then checkE (chgSt s d) else 6
def applyS (s : St) (d : DeltaD) : St := if applyE s d = 0 then chgSt s d else ⟨0, [], [], []⟩
theorem apply_betw {a b : St} (ha : checkE a = 0) (hb : checkE b = 0) (h : a.rev < b.rev) : applyE a (betw a b) = 0 ∧ applyS a (betw a b) = b := by
 have fa := (fine_iff a).1 ha
 have fb := (fine_iff b).1 hb
 have hc : chgSt a (betw a b) = b := by
  unfold chgSt betw
  simp only
  rw [chgL_eq fa.sj (setOf_sorted fb.sj) (betw_is fa.sj fb.sj), chgL_eq fa.sn (setOf_sorted fb.sn) (betw_is fa.sn fb.sn), chgL_eq fa.sl (setOf_sorted fb.sl) (betw_is fa.sl fb.sl)]
 have hall : chgAll a (betw a b) = true := by
  unfold chgAll betw
  simp only [Bool.and_eq_true]
  exact ⟨⟨chgB_iff.2 betw_in, chgB_iff.2 betw_in⟩, chgB_iff.2 betw_in⟩
 have he : applyE a (betw a b) = 0 := by
  unfold applyE
  rw [if_neg (by simpa using ha), if_neg (by simpa using betw_ok ha hb h), if_neg (by simp [betw]), if_pos hall, hc, hb]
 exact ⟨he, by unfold applyS; rw [if_pos he, hc]⟩
end Go.Proofs.YtaioadbenigdpaaGreatDoor
