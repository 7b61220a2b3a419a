/-
  Several texts in one: ChgP, DelFine.
-/
import Derived.Test.YtibiankbmhdljabGreatDoorPkDelC
set_option linter.all false
set_option maxHeartbeats 16000000
set_option maxRecDepth 100000
namespace Go.Proofs.YtibiankbmhdljabGreatDoor
open Go.Proofs.Tryz
section
variable {α : Type} {key : α -> ByteArray}
theorem vjr {a b : ByteArray} (h : ltS a b = true) : ltS b a = false := by
 cases h2 : ltS b a
 ·rfl
 ·have := uz2 h h2
  rw [uxp] at this; cases this
theorem ujh : ∀ {l : List α}, uq7 key l -> ∀ {x y : α}, x ∈ l -> y ∈ l -> key x = key y -> x = y
 | [], _, x, y, hx, _, _ => by cases hx
 | z :: r, h, x, y, hx, hy, he => by
  obtain ⟨h1, h2⟩ := List.pairwise_cons.1 h
  rcases List.mem_cons.1 hx with e1 | hx1
  ·rcases List.mem_cons.1 hy with e2 | hy1
   ·rw [e1, e2]
   ·have := h1 y hy1; rw [<- e1, he, uxp] at this; cases this
  ·rcases List.mem_cons.1 hy with e2 | hy1
   ·have := h1 x hx1; rw [<- e2, he, uxp] at this; cases this
   ·exact ujh h2 hx1 hy1 he
theorem uv7 : ∀ {a b : List α}, uq7 key a -> uq7 key b -> (∀ x, x ∈ a ↔ x ∈ b) -> a = b
 | [], [], _, _, _ => rfl
 | [], y :: t, _, _, h => by have := (h y).2 List.mem_cons_self; cases this
 | x :: r, [], _, _, h => by have := (h x).1 List.mem_cons_self; cases this
 | x :: r, y :: t, ha, hb, h => by
  obtain ⟨a1, a2⟩ := List.pairwise_cons.1 ha
  obtain ⟨b1, b2⟩ := List.pairwise_cons.1 hb
  have hxy : x = y := by
   rcases List.mem_cons.1 ((h x).1 List.mem_cons_self) with e | hx
   ·exact e
   ·rcases List.mem_cons.1 ((h y).2 List.mem_cons_self) with e | hy
    ·exact e.symm
    ·have h1 := a1 y hy
     have h2 := b1 x hx
     rw [vjr h1] at h2; cases h2
  subst hxy
  congr 1
  refine uv7 a2 b2 fun z => ⟨fun hz => ?_, fun hz => ?_⟩
  ·rcases List.mem_cons.1 ((h z).1 (List.mem_cons_of_mem _ hz)) with rfl | hz'
   ·have := a1 z hz; rw [uxp] at this; cases this
   ·exact hz'
  ·rcases List.mem_cons.1 ((h z).2 (List.mem_cons_of_mem _ hz)) with rfl | hz'
   ·have := b1 z hz; rw [uxp] at this; cases this
   ·exact hz'
def IsChg (key : α -> ByteArray) (rows set : List α) (gone : List ByteArray) (r : List α) : Prop :=
 uq7 key r ∧ ∀ x, x ∈ r ↔ (x ∈ set ∨ (x ∈ rows ∧ key x ∉ gone ∧ ∀ y ∈ set, key y ≠ key x))
def AllIn (key : α -> ByteArray) (rows : List α) (gone : List ByteArray) : Prop := ∀ s ∈ gone, ∃ x ∈ rows, key x = s
theorem IsChg.uniq {rows set : List α} {gone : List ByteArray} {a b : List α} (h1 : IsChg key rows set gone a) (h2 : IsChg key rows set gone b) : a = b :=
 uv7 h1.1 h2.1 fun x => (h1.2 x).trans (h2.2 x).symm
def chgB (key : α -> ByteArray) (rows : List α) (gone : List ByteArray) : Bool := gone.all fun s => rows.any fun x => decide (key x = s)
theorem vqm {rows : List α} {gone : List ByteArray} : chgB key rows gone = true ↔ AllIn key rows gone := by
 unfold chgB AllIn
 rw [List.all_eq_true]
 constructor
 ·intro h s hs
  obtain ⟨x, hx, he⟩ := List.any_eq_true.1 (h s hs)
  exact ⟨x, hx, of_decide_eq_true he⟩
 ·intro h s hs
  obtain ⟨x, hx, he⟩ := h s hs
  exact List.any_eq_true.2 ⟨x, hx, decide_eq_true he⟩
def chgL (key : α -> ByteArray) (rows set : List α) (gone : List ByteArray) : List α :=
 ((rows.filter fun x => !(gone.any fun s => decide (s = key x)) && !(set.any fun y => decide (key y = key x))) ++ set).mergeSort fun x y => !ltS (key y) (key x)
theorem xqz : ∀ {l : List α}, l.Pairwise (fun x y => ltS (key y) (key x) = false) -> l.Pairwise (fun x y => key x ≠ key y) -> uq7 key l := by
 intro l h1 h2
 exact (h1.and h2).imp fun {x y} h => by
  rcases uz1 (key x) (key y) with h' | h' | h'
  ·exact h'
  ·exact absurd h' h.2
  ·rw [h'] at h; exact absurd h.1 (by simp)
theorem chgL_is {rows set : List α} {gone : List ByteArray} (hr : uq7 key rows) (hs : uq7 key set) : IsChg key rows set gone (chgL key rows set gone) := by
 have hp := List.mergeSort_perm ((rows.filter fun x => !(gone.any fun s => decide (s = key x)) && !(set.any fun y => decide (key y = key x))) ++ set) (fun x y => !ltS (key y) (key x))
 constructor
 ·refine xqz ?_ ?_
  ·have := List.pairwise_mergeSort (le := fun x y : α => !ltS (key y) (key x)) ?_ ?_ ((rows.filter fun x => !(gone.any fun s => decide (s = key x)) && !(set.any fun y => decide (key y = key x))) ++ set)
   ·exact this.imp fun h => by simpa using h
   ·intro x y z h1 h2
    simp only [Bool.not_eq_true'] at *
    rcases uz1 (key z) (key x) with h | h | h
    ·rcases uz1 (key x) (key y) with h' | h' | h'
     ·rw [uz2 h h'] at h2; cases h2
     ·rw [<- h'] at h2; exact h2
     ·rw [h'] at h1; cases h1
    ·rw [h]; exact uxp _
    ·exact vjr h
   ·intro x y
    cases h : ltS (key y) (key x)
    ·rfl
    ·rw [vjr h]; rfl
  ·refine (hp.pairwise_iff (fun h => Ne.symm h)).2 ?_
   rw [List.pairwise_append]
   refine ⟨List.Pairwise.sublist List.filter_sublist (hr.imp fun h => uy2 h), hs.imp fun h => uy2 h, ?_⟩
   intro x hx y hy he
   have := (List.mem_filter.1 hx).2
   simp only [Bool.and_eq_true, Bool.not_eq_true'] at this
   have h2 := List.any_eq_false.1 this.2 y hy
   exact h2 (decide_eq_true he.symm)
 ·intro x
  rw [show x ∈ chgL key rows set gone ↔ _ from hp.mem_iff, List.mem_append, List.mem_filter]
  simp only [Bool.and_eq_true, Bool.not_eq_true', List.any_eq_false, decide_eq_true_eq]
  constructor
  ·rintro (⟨h1, h2, h3⟩ | h)
   ·exact .inr ⟨h1, fun h => h2 _ h rfl, fun y hy => h3 y hy⟩
   ·exact .inl h
  ·rintro (h | ⟨h1, h2, h3⟩)
   ·exact .inr h
   ·exact .inl ⟨h1, fun s hs he => h2 (he ▸ hs), fun y hy => h3 y hy⟩
theorem vv2 {rows set : List α} {gone : List ByteArray} {r : List α} (hr : uq7 key rows) (hs : uq7 key set) (h : IsChg key rows set gone r) : chgL key rows set gone = r := (chgL_is hr hs).uniq h
theorem chgL_len {rows set : List α} {gone : List ByteArray} : (chgL key rows set gone).length <= rows.length + set.length := by
 unfold chgL
 rw [List.length_mergeSort, zrb]
 have := List.length_filter_le (fun x => !(gone.any fun s => decide (s = key x)) && !(set.any fun y => decide (key y = key x))) rows
 omega
end
theorem wj3 (has : ByteArray -> Bool) : ∀ (l : List ByteArray) (p : Option ByteArray), goneE has p l = 0 ↔ rowsE (fun s : ByteArray => s) (fun s => if uxc s = false then 4 else if has s = true then 7 else 0) p l = 0
 | [], p => by simp [goneE, rowsE]
 | s :: r, p => by
  have ih := wj3 has r (some s)
  unfold goneE rowsE
  cases hn : uxc s
  ·simp
  ·cases hb : ux8 (fun s : ByteArray => s) p s
   ·cases hh : has s
    ·simpa using ih
    ·simp
   ·cases hh : has s <;> simp
theorem uyk {has : ByteArray -> Bool} {l : List ByteArray} : goneE has none l = 0 ↔ (∀ s ∈ l, uxc s = true ∧ has s = false) ∧ uq7 (fun s : ByteArray => s) l := by
 rw [wj3, uzc]
 refine and_congr (forall_congr' fun s => imp_congr_right fun _ => ?_) Iff.rfl
 cases uxc s <;> cases has s <;> simp
theorem uw3 {x : JobD} (h : jobE x = 0) : uxc x.name = true := by
 unfold jobE at h
 cases hn : uxc x.name
 ·rw [hn] at h; simp at h
 ·rfl
theorem uyo {x : NodeD} (h : nodeE x = 0) : uxc x.name = true := by
 unfold nodeE at h
 cases hn : uxc x.name
 ·rw [hn] at h; simp at h
 ·rfl
theorem vwp {s : St} (hs : Fine s) {x : uqe} (hx : x ∈ s.leases) : uxw x = 0 := by
 have h := hs.l x hx
 unfold uzf at h
 cases h1 : jobAt s.jobs x.job with
 | none => rw [h1] at h; simp at h
 | some j =>
  cases h2 : uxu s.nodes x.node with
  | none => rw [h1, h2] at h; simp at h
  | some n =>
   rw [h1, h2] at h
   have hj := List.mem_of_find?_eq_some h1
   have hj2 := List.find?_some h1
   have hn := List.mem_of_find?_eq_some h2
   have hn2 := List.find?_some h2
   have e1 : uxc x.job = true := by rw [<- of_decide_eq_true hj2]; exact uw3 (hs.j j hj)
   have e2 : uxc x.node = true := by rw [<- of_decide_eq_true hn2]; exact uyo (hs.n n hn)
   unfold uxw
   rw [e1, e2]
   simpa using h
def chgSt (s : St) (d : uq1) : St := ⟨d.upto, chgL JobD.name s.jobs d.jobs d.gj, chgL NodeD.name s.nodes d.nodes d.gn, chgL uqe.job s.leases d.leases d.gl⟩
def uyw (s : St) (d : uq1) : Bool := chgB JobD.name s.jobs d.gj && chgB NodeD.name s.nodes d.gn && chgB uqe.job s.leases d.gl
def uzp (s : St) (d : uq1) : Nat :=
 if uqq s ≠ 0 then uqq s else if uxh d ≠ 0 then uxh d else if d.frm ≠ s.rev then 10 else if uyw s d = true then uqq (chgSt s d) else 6
def uzw (s : St) (d : uq1) : St := if uzp s d = 0 then chgSt s d else ⟨0, [], [], []⟩
open Go.RowKit
theorem vqx {l : uqe} (h : uxw l = 0) : uxc l.job = true ∧ uxc l.node = true ∧ 0 <= l.till ∧ l.till <= 1099511627776 := by
 unfold uxw at h
 cases h1 : uxc l.job
 ·rw [h1] at h; simp at h
 ·cases h2 : uxc l.node
  ·rw [h1, h2] at h; simp at h
  ·cases h3 : uxd l.till 0 1099511627776
   ·rw [h1, h2, h3] at h; simp at h
   ·exact ⟨rfl, rfl, uqy.1 h3⟩
structure DelFine (d : uq1) : Prop where
 lj : d.jobs.length <= 40
 ln : d.nodes.length <= 20
 ll : d.leases.length <= 40
 gj : d.gj.length <= 40
 gn : d.gn.length <= 20
 gl : d.gl.length <= 40
 j : (∀ x ∈ d.jobs, jobE x = 0) ∧ uq7 JobD.name d.jobs
 n : (∀ x ∈ d.nodes, nodeE x = 0) ∧ uq7 NodeD.name d.nodes
 l : (∀ x ∈ d.leases, uxw x = 0) ∧ uq7 uqe.job d.leases
 hj : (∀ s ∈ d.gj, uxc s = true ∧ hasJn d.jobs s = false) ∧ uq7 (fun s : ByteArray => s) d.gj
 hn : (∀ s ∈ d.gn, uxc s = true ∧ hasNn d.nodes s = false) ∧ uq7 (fun s : ByteArray => s) d.gn
 hl : (∀ s ∈ d.gl, uxc s = true ∧ hasLn d.leases s = false) ∧ uq7 (fun s : ByteArray => s) d.gl
theorem wy1 {d : uq1} (h : uxh d = 0) : DelFine d := by
 obtain ⟨_, h2, h3⟩ := vz8 h
 obtain ⟨⟨a1, a2, a3, a4⟩, a5, a6⟩ := h2
 simp only [uzj, List.mem_cons, List.mem_nil_iff, or_false, forall_eq_or_imp, forall_eq] at h3
 obtain ⟨b1, b2, b3, b4, b5, b6⟩ := h3
 exact ⟨a1, a5, a2, a3, a6, a4, uzc.1 b1, uzc.1 b2, uzc.1 b3, uyk.1 b4, uyk.1 b5, uyk.1 b6⟩
end Go.Proofs.YtibiankbmhdljabGreatDoor
