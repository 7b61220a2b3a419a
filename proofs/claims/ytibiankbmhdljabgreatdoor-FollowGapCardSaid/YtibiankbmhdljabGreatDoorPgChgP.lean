/-
  Several texts in one: ChgP, DelFine.
-/
import Derived.Test.YtibiankbmhdljabGreatDoorPgDelC
set_option linter.all false
set_option maxHeartbeats 16000000
set_option maxRecDepth 100000
namespace Go.Proofs.YtibiankbmhdljabGreatDoor
open Go.Proofs.Tryz
section
variable {α : Type} {key : α -> ByteArray}
theorem vkg {a b : ByteArray} (h : ltS a b = true) : ltS b a = false := by
 cases h2 : ltS b a
 ·rfl
 ·have := uz8 h h2
  rw [uxs] at this; cases this
theorem ujs : ∀ {l : List α}, uq7 key l -> ∀ {x y : α}, x ∈ l -> y ∈ l -> key x = key y -> x = y
 | [], _, x, y, hx, _, _ => by cases hx
 | z :: r, h, x, y, hx, hy, he => by
  obtain ⟨h1, h2⟩ := List.pairwise_cons.1 h
  rcases List.mem_cons.1 hx with e1 | hx1
  ·rcases List.mem_cons.1 hy with e2 | hy1
   ·rw [e1, e2]
   ·have := h1 y hy1; rw [<- e1, he, uxs] at this; cases this
  ·rcases List.mem_cons.1 hy with e2 | hy1
   ·have := h1 x hx1; rw [<- e2, he, uxs] at this; cases this
   ·exact ujs h2 hx1 hy1 he
theorem uwm : ∀ {a b : List α}, uq7 key a -> uq7 key b -> (∀ x, x ∈ a ↔ x ∈ b) -> a = b
 | [], [], _, _, _ => rfl
 | [], y :: t, _, _, h => by have := (h y).2 List.mem_cons_self; cases this
 | x :: r, [], _, _, h => by have := (h x).1 List.mem_cons_self; cases this
 | x :: r, y :: t, ha, hb, h => by
  obtain ⟨a1, a2⟩ := List.pairwise_cons.1 ha
  obtain ⟨b1, b2⟩ := List.pairwise_cons.1 hb
  have hxy : x = y := by
   rcases List.mem_cons.1 ((h x).1 List.mem_cons_self) with e | hx
   ·exact e
   ·rcases List.mem_cons.1 ((h y).2 List.mem_cons_self) with e | hy
    ·exact e.symm
    ·have h1 := a1 y hy
     have h2 := b1 x hx
     rw [vkg h1] at h2; cases h2
  subst hxy
  congr 1
  refine uwm a2 b2 fun z => ⟨fun hz => ?_, fun hz => ?_⟩
  ·rcases List.mem_cons.1 ((h z).1 (List.mem_cons_of_mem _ hz)) with rfl | hz'
   ·have := a1 z hz; rw [uxs] at this; cases this
   ·exact hz'
  ·rcases List.mem_cons.1 ((h z).2 (List.mem_cons_of_mem _ hz)) with rfl | hz'
   ·have := b1 z hz; rw [uxs] at this; cases this
   ·exact hz'
def IsChg (key : α -> ByteArray) (rows set : List α) (gone : List ByteArray) (r : List α) : Prop :=
 uq7 key r ∧ ∀ x, x ∈ r ↔ (x ∈ set ∨ (x ∈ rows ∧ key x ∉ gone ∧ ∀ y ∈ set, key y ≠ key x))
def AllIn (key : α -> ByteArray) (rows : List α) (gone : List ByteArray) : Prop := ∀ s ∈ gone, ∃ x ∈ rows, key x = s
theorem IsChg.uniq {rows set : List α} {gone : List ByteArray} {a b : List α} (h1 : IsChg key rows set gone a) (h2 : IsChg key rows set gone b) : a = b :=
 uwm h1.1 h2.1 fun x => (h1.2 x).trans (h2.2 x).symm
def chgB (key : α -> ByteArray) (rows : List α) (gone : List ByteArray) : Bool := gone.all fun s => rows.any fun x => decide (key x = s)
theorem vq3 {rows : List α} {gone : List ByteArray} : chgB key rows gone = true ↔ AllIn key rows gone := by
 unfold chgB AllIn
 rw [List.all_eq_true]
 constructor
 ·intro h s hs
  obtain ⟨x, hx, he⟩ := List.any_eq_true.1 (h s hs)
  exact ⟨x, hx, of_decide_eq_true he⟩
 ·intro h s hs
  obtain ⟨x, hx, he⟩ := h s hs
  exact List.any_eq_true.2 ⟨x, hx, decide_eq_true he⟩
def chgL (key : α -> ByteArray) (rows set : List α) (gone : List ByteArray) : List α :=
 ((rows.filter fun x => !(gone.any fun s => decide (s = key x)) && !(set.any fun y => decide (key y = key x))) ++ set).mergeSort fun x y => !ltS (key y) (key x)
theorem xx5 : ∀ {l : List α}, l.Pairwise (fun x y => ltS (key y) (key x) = false) -> l.Pairwise (fun x y => key x ≠ key y) -> uq7 key l := by
 intro l h1 h2
 exact (h1.and h2).imp fun {x y} h => by
  rcases uz7 (key x) (key y) with h' | h' | h'
  ·exact h'
  ·exact absurd h' h.2
  ·rw [h'] at h; exact absurd h.1 (by simp)
theorem chgL_is {rows set : List α} {gone : List ByteArray} (hr : uq7 key rows) (hs : uq7 key set) : IsChg key rows set gone (chgL key rows set gone) := by
 have hp := List.mergeSort_perm ((rows.filter fun x => !(gone.any fun s => decide (s = key x)) && !(set.any fun y => decide (key y = key x))) ++ set) (fun x y => !ltS (key y) (key x))
 constructor
 ·refine xx5 ?_ ?_
  ·have := List.pairwise_mergeSort (le := fun x y : α => !ltS (key y) (key x)) ?_ ?_ ((rows.filter fun x => !(gone.any fun s => decide (s = key x)) && !(set.any fun y => decide (key y = key x))) ++ set)
   ·exact this.imp fun h => by simpa using h
   ·intro x y z h1 h2
    simp only [Bool.not_eq_true'] at *
    rcases uz7 (key z) (key x) with h | h | h
    ·rcases uz7 (key x) (key y) with h' | h' | h'
     ·rw [uz8 h h'] at h2; cases h2
     ·rw [<- h'] at h2; exact h2
     ·rw [h'] at h1; cases h1
    ·rw [h]; exact uxs _
    ·exact vkg h
   ·intro x y
    cases h : ltS (key y) (key x)
    ·rfl
    ·rw [vkg h]; rfl
  ·refine (hp.pairwise_iff (fun h => Ne.symm h)).2 ?_
   rw [List.pairwise_append]
   refine ⟨List.Pairwise.sublist List.filter_sublist (hr.imp fun h => vqk h), hs.imp fun h => vqk h, ?_⟩
   intro x hx y hy he
   have := (List.mem_filter.1 hx).2
   simp only [Bool.and_eq_true, Bool.not_eq_true'] at this
   have h2 := List.any_eq_false.1 this.2 y hy
   exact h2 (decide_eq_true he.symm)
 ·intro x
  rw [show x ∈ chgL key rows set gone ↔ _ from hp.mem_iff, List.mem_append, List.mem_filter]
  simp only [Bool.and_eq_true, Bool.not_eq_true', List.any_eq_false, decide_eq_true_eq]
  constructor
  ·rintro (⟨h1, h2, h3⟩ | h)
   ·exact .inr ⟨h1, fun h => h2 _ h rfl, fun y hy => h3 y hy⟩
   ·exact .inl h
  ·rintro (h | ⟨h1, h2, h3⟩)
   ·exact .inr h
   ·exact .inl ⟨h1, fun s hs he => h2 (he ▸ hs), fun y hy => h3 y hy⟩
theorem vww {rows set : List α} {gone : List ByteArray} {r : List α} (hr : uq7 key rows) (hs : uq7 key set) (h : IsChg key rows set gone r) : chgL key rows set gone = r := (chgL_is hr hs).uniq h
theorem chgL_len {rows set : List α} {gone : List ByteArray} : (chgL key rows set gone).length <= rows.length + set.length := by
 unfold chgL
 rw [List.length_mergeSort, zrb]
 have := List.length_filter_le (fun x => !(gone.any fun s => decide (s = key x)) && !(set.any fun y => decide (key y = key x))) rows
 omega
theorem ujy [DecidableEq α] {a b : List α} (h : uq7 key b) : uq7 key (setOf a b) := List.Pairwise.sublist List.filter_sublist h
theorem uww {a b : List α} (h : uq7 key a) : uq7 (fun s : ByteArray => s) (uqv key a b) := by
 unfold uqv uq7
 rw [List.pairwise_map]
 exact List.Pairwise.sublist List.filter_sublist h
end
theorem wk1 (has : ByteArray -> Bool) : ∀ (l : List ByteArray) (p : Option ByteArray), goneE has p l = 0 ↔ rowsE (fun s : ByteArray => s) (fun s => if uq9 s = false then 4 else if has s = true then 7 else 0) p l = 0
 | [], p => by simp [goneE, rowsE]
 | s :: r, p => by
  have ih := wk1 has r (some s)
  unfold goneE rowsE
  cases hn : uq9 s
  ·simp
  ·cases hb : uxr (fun s : ByteArray => s) p s
   ·cases hh : has s
    ·simpa using ih
    ·simp
   ·cases hh : has s <;> simp
theorem uy2 {has : ByteArray -> Bool} {l : List ByteArray} : goneE has none l = 0 ↔ (∀ s ∈ l, uq9 s = true ∧ has s = false) ∧ uq7 (fun s : ByteArray => s) l := by
 rw [wk1, uzf]
 refine and_congr (forall_congr' fun s => imp_congr_right fun _ => ?_) Iff.rfl
 cases uq9 s <;> cases has s <;> simp
theorem vv0 : ∀ {l : List Nat}, (∀ e ∈ l, e = 0) -> vqj l = 0
 | [], _ => rfl
 | x :: r, h => by
  unfold vqj
  rw [if_neg (by simpa using h x List.mem_cons_self)]
  exact vv0 fun e he => h e (List.mem_cons_of_mem _ he)
theorem uyj {x : JobD} (h : jobE x = 0) : uq9 x.name = true := by
 unfold jobE at h
 cases hn : uq9 x.name
 ·rw [hn] at h; simp at h
 ·rfl
theorem uy6 {x : NodeD} (h : nodeE x = 0) : uq9 x.name = true := by
 unfold nodeE at h
 cases hn : uq9 x.name
 ·rw [hn] at h; simp at h
 ·rfl
theorem vyj {s : St} (hs : Fine s) {x : uqf} (hx : x ∈ s.leases) : uxz x = 0 := by
 have h := hs.l x hx
 unfold ux5 at h
 cases h1 : jobAt s.jobs x.job with
 | none => rw [h1] at h; simp at h
 | some j =>
  cases h2 : uxv s.nodes x.node with
  | none => rw [h1, h2] at h; simp at h
  | some n =>
   rw [h1, h2] at h
   have hj := List.mem_of_find?_eq_some h1
   have hj2 := List.find?_some h1
   have hn := List.mem_of_find?_eq_some h2
   have hn2 := List.find?_some h2
   have e1 : uq9 x.job = true := by rw [<- of_decide_eq_true hj2]; exact uyj (hs.j j hj)
   have e2 : uq9 x.node = true := by rw [<- of_decide_eq_true hn2]; exact uy6 (hs.n n hn)
   unfold uxz
   rw [e1, e2]
   simpa using h
theorem vkf {x : uqf} (h : uxz x = 0) : uq9 x.job = true := by
 unfold uxz at h
 cases hn : uq9 x.job
 ·rw [hn] at h; simp at h
 ·rfl
theorem vj7 {α : Type} [DecidableEq α] {key : α -> ByteArray} {a b : List α} {s : ByteArray} (h : s ∈ uqv key a b) : ((setOf a b).any fun x => decide (key x = s)) = false := by
 rw [List.any_eq_false]
 intro x hx he
 exact (uju.1 h).2 x (ukc.1 hx).1 (of_decide_eq_true he)
theorem vjo {a b : St} (ha : uqq a = 0) (hb : uqq b = 0) (h : a.rev < b.rev) : uxj (betw a b) = 0 := by
 have fa := (uxm a).1 ha
 have fb := (uxm b).1 hb
 have r1 : revOk (betw a b) := ⟨fa.rev, h, fb.rev.2⟩
 have r2 : lenOk (betw a b) :=
  ⟨⟨zrc (ukb _ _) fb.nj, zrc (ukb _ _) fb.nl, zrc (uvi _ _ _) fa.nj, zrc (uvi _ _ _) fa.nl⟩, zrc (ukb _ _) fb.nn, zrc (uvi _ _ _) fa.nn⟩
 unfold uxj
 rw [if_neg (by simpa using r1), if_neg (by simpa using r2)]
 refine vv0 fun e he => ?_
 simp only [uzp, List.mem_cons, List.mem_nil_iff, or_false] at he
 rcases he with rfl | rfl | rfl | rfl | rfl | rfl
 ·exact uzf.2 ⟨fun x hx => fb.j x (ukc.1 hx).1, ujy fb.sj⟩
 ·exact uzf.2 ⟨fun x hx => fb.n x (ukc.1 hx).1, ujy fb.sn⟩
 ·exact uzf.2 ⟨fun x hx => vyj fb (ukc.1 hx).1, ujy fb.sl⟩
 ·refine uy2.2 ⟨fun s hs => ⟨?_, vj7 hs⟩, uww fa.sj⟩
  obtain ⟨⟨x, hx, rfl⟩, _⟩ := uju.1 hs
  exact uyj (fa.j x hx)
 ·refine uy2.2 ⟨fun s hs => ⟨?_, vj7 hs⟩, uww fa.sn⟩
  obtain ⟨⟨x, hx, rfl⟩, _⟩ := uju.1 hs
  exact uy6 (fa.n x hx)
 ·refine uy2.2 ⟨fun s hs => ⟨?_, vj7 hs⟩, uww fa.sl⟩
  obtain ⟨⟨x, hx, rfl⟩, _⟩ := uju.1 hs
  exact vkf (vyj fa hx)
def chgSt (s : St) (d : uq1) : St := ⟨d.upto, chgL JobD.name s.jobs d.jobs d.gj, chgL NodeD.name s.nodes d.nodes d.gn, chgL uqf.job s.leases d.leases d.gl⟩
def vqf (s : St) (d : uq1) : Bool := chgB JobD.name s.jobs d.gj && chgB NodeD.name s.nodes d.gn && chgB uqf.job s.leases d.gl
def uzv (s : St) (d : uq1) : Nat :=
 if uqq s ≠ 0 then uqq s else if uxj d ≠ 0 then uxj d else if d.frm ≠ s.rev then 10 else if vqf s d = true then uqq (chgSt s d) else 6
def uz2 (s : St) (d : uq1) : St := if uzv s d = 0 then chgSt s d else ⟨0, [], [], []⟩
open Go.RowKit
theorem vxg {l : uqf} (h : uxz l = 0) : uq9 l.job = true ∧ uq9 l.node = true ∧ 0 <= l.till ∧ l.till <= 1099511627776 := by
 unfold uxz at h
 cases h1 : uq9 l.job
 ·rw [h1] at h; simp at h
 ·cases h2 : uq9 l.node
  ·rw [h1, h2] at h; simp at h
  ·cases h3 : uq8 l.till 0 1099511627776
   ·rw [h1, h2, h3] at h; simp at h
   ·exact ⟨rfl, rfl, uqz.1 h3⟩
structure DelFine (d : uq1) : Prop where
 lj : d.jobs.length <= 40
 ln : d.nodes.length <= 20
 ll : d.leases.length <= 40
 gj : d.gj.length <= 40
 gn : d.gn.length <= 20
 gl : d.gl.length <= 40
 j : (∀ x ∈ d.jobs, jobE x = 0) ∧ uq7 JobD.name d.jobs
 n : (∀ x ∈ d.nodes, nodeE x = 0) ∧ uq7 NodeD.name d.nodes
 l : (∀ x ∈ d.leases, uxz x = 0) ∧ uq7 uqf.job d.leases
 hj : (∀ s ∈ d.gj, uq9 s = true ∧ hasJn d.jobs s = false) ∧ uq7 (fun s : ByteArray => s) d.gj
 hn : (∀ s ∈ d.gn, uq9 s = true ∧ hasNn d.nodes s = false) ∧ uq7 (fun s : ByteArray => s) d.gn
 hl : (∀ s ∈ d.gl, uq9 s = true ∧ hasLn d.leases s = false) ∧ uq7 (fun s : ByteArray => s) d.gl
theorem xq7 {d : uq1} (h : uxj d = 0) : DelFine d := by
 obtain ⟨_, h2, h3⟩ := vjv h
 obtain ⟨⟨a1, a2, a3, a4⟩, a5, a6⟩ := h2
 simp only [uzp, List.mem_cons, List.mem_nil_iff, or_false, forall_eq_or_imp, forall_eq] at h3
 obtain ⟨b1, b2, b3, b4, b5, b6⟩ := h3
 exact ⟨a1, a5, a2, a3, a6, a4, uzf.1 b1, uzf.1 b2, uzf.1 b3, uy2.1 b4, uy2.1 b5, uy2.1 b6⟩
end Go.Proofs.YtibiankbmhdljabGreatDoor
