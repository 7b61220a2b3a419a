/-
  Several texts in one: ChgP, DelFine.
-/
import Derived.Test.YtibiankbmhdljaaGreatDoorPkDelC
set_option linter.all false
set_option maxHeartbeats 16000000
set_option maxRecDepth 100000
namespace Go.Proofs.YtibiankbmhdljaaGreatDoor
open Go.Proofs.Tryz
section
variable {α : Type} {key : α -> ByteArray}
theorem ujm : ∀ {l : List α}, uq3 key l -> ∀ {x y : α}, x ∈ l -> y ∈ l -> key x = key y -> x = y
 | [], _, x, y, hx, _, _ => by cases hx
 | z :: r, h, x, y, hx, hy, he => by
  obtain ⟨h1, h2⟩ := List.pairwise_cons.1 h
  rcases List.mem_cons.1 hx with e1 | hx1
  ·rcases List.mem_cons.1 hy with e2 | hy1
   ·rw [e1, e2]
   ·have := h1 y hy1; rw [<- e1, he, uxq] at this; cases this
  ·rcases List.mem_cons.1 hy with e2 | hy1
   ·have := h1 x hx1; rw [<- e2, he, uxq] at this; cases this
   ·exact ujm h2 hx1 hy1 he
def IsChg (key : α -> ByteArray) (rows set : List α) (gone : List ByteArray) (r : List α) : Prop :=
 uq3 key r ∧ ∀ x, x ∈ r ↔ (x ∈ set ∨ (x ∈ rows ∧ key x ∉ gone ∧ ∀ y ∈ set, key y ≠ key x))
def AllIn (key : α -> ByteArray) (rows : List α) (gone : List ByteArray) : Prop := ∀ s ∈ gone, ∃ x ∈ rows, key x = s
def chgB (key : α -> ByteArray) (rows : List α) (gone : List ByteArray) : Bool := gone.all fun s => rows.any fun x => decide (key x = s)
def chgL (key : α -> ByteArray) (rows set : List α) (gone : List ByteArray) : List α :=
 ((rows.filter fun x => !(gone.any fun s => decide (s = key x)) && !(set.any fun y => decide (key y = key x))) ++ set).mergeSort fun x y => !ltS (key y) (key x)
theorem uju [DecidableEq α] {a b : List α} (h : uq3 key b) : uq3 key (setOf a b) := List.Pairwise.sublist List.filter_sublist h
theorem uwk {a b : List α} (h : uq3 key a) : uq3 (fun s : ByteArray => s) (uqq key a b) := by
 unfold uqq uq3
 rw [List.pairwise_map]
 exact List.Pairwise.sublist List.filter_sublist h
end
theorem wkm (has : ByteArray -> Bool) : ∀ (l : List ByteArray) (p : Option ByteArray), goneE has p l = 0 ↔ rowsE (fun s : ByteArray => s) (fun s => if uxb s = false then 4 else if has s = true then 7 else 0) p l = 0
 | [], p => by simp [goneE, rowsE]
 | s :: r, p => by
  have ih := wkm has r (some s)
  unfold goneE rowsE
  cases hn : uxb s
  ·simp
  ·cases hb : uze (fun s : ByteArray => s) p s
   ·cases hh : has s
    ·simpa using ih
    ·simp
   ·cases hh : has s <;> simp
theorem uy0 {has : ByteArray -> Bool} {l : List ByteArray} : goneE has none l = 0 ↔ (∀ s ∈ l, uxb s = true ∧ has s = false) ∧ uq3 (fun s : ByteArray => s) l := by
 rw [wkm, uzi]
 refine and_congr (forall_congr' fun s => imp_congr_right fun _ => ?_) Iff.rfl
 cases uxb s <;> cases has s <;> simp
theorem vvq : ∀ {l : List Nat}, (∀ e ∈ l, e = 0) -> vqm l = 0
 | [], _ => rfl
 | x :: r, h => by
  unfold vqm
  rw [if_neg (by simpa using h x List.mem_cons_self)]
  exact vvq fun e he => h e (List.mem_cons_of_mem _ he)
theorem vko {x : JobD} (h : jobE x = 0) : uxb x.name = true := by
 unfold jobE at h
 cases hn : uxb x.name
 ·rw [hn] at h; simp at h
 ·rfl
theorem vvx {x : NodeD} (h : nodeE x = 0) : uxb x.name = true := by
 unfold nodeE at h
 cases hn : uxb x.name
 ·rw [hn] at h; simp at h
 ·rfl
theorem wkt {s : St} (hs : Fine s) {x : uqd} (hx : x ∈ s.leases) : ux3 x = 0 := by
 have h := hs.l x hx
 unfold uzf at h
 cases h1 : jobAt s.jobs x.job with
 | none => rw [h1] at h; simp at h
 | some j =>
  cases h2 : uxt s.nodes x.node with
  | none => rw [h1, h2] at h; simp at h
  | some n =>
   rw [h1, h2] at h
   have hj := List.mem_of_find?_eq_some h1
   have hj2 := List.find?_some h1
   have hn := List.mem_of_find?_eq_some h2
   have hn2 := List.find?_some h2
   have e1 : uxb x.job = true := by rw [<- of_decide_eq_true hj2]; exact vko (hs.j j hj)
   have e2 : uxb x.node = true := by rw [<- of_decide_eq_true hn2]; exact vvx (hs.n n hn)
   unfold ux3
   rw [e1, e2]
   simpa using h
theorem vks {x : uqd} (h : ux3 x = 0) : uxb x.job = true := by
 unfold ux3 at h
 cases hn : uxb x.job
 ·rw [hn] at h; simp at h
 ·rfl
theorem vke {α : Type} [DecidableEq α] {key : α -> ByteArray} {a b : List α} {s : ByteArray} (h : s ∈ uqq key a b) : ((setOf a b).any fun x => decide (key x = s)) = false := by
 rw [List.any_eq_false]
 intro x hx he
 exact (ujp.1 h).2 x (uzo.1 hx).1 (of_decide_eq_true he)
theorem vjx {a b : St} (ha : uqv a = 0) (hb : uqv b = 0) (h : a.rev < b.rev) : uzs (betw a b) = 0 := by
 have fa := (uxi a).1 ha
 have fb := (uxi b).1 hb
 have r1 : revOk (betw a b) := ⟨fa.rev, h, fb.rev.2⟩
 have r2 : lenOk (betw a b) :=
  ⟨⟨zrc (uj1 _ _) fb.nj, zrc (uj1 _ _) fb.nl, zrc (uzm _ _ _) fa.nj, zrc (uzm _ _ _) fa.nl⟩, zrc (uj1 _ _) fb.nn, zrc (uzm _ _ _) fa.nn⟩
 unfold uzs
 rw [if_neg (by simpa using r1), if_neg (by simpa using r2)]
 refine vvq fun e he => ?_
 simp only [uzr, List.mem_cons, List.mem_nil_iff, or_false] at he
 rcases he with rfl | rfl | rfl | rfl | rfl | rfl
 ·exact uzi.2 ⟨fun x hx => fb.j x (uzo.1 hx).1, uju fb.sj⟩
 ·exact uzi.2 ⟨fun x hx => fb.n x (uzo.1 hx).1, uju fb.sn⟩
 ·exact uzi.2 ⟨fun x hx => wkt fb (uzo.1 hx).1, uju fb.sl⟩
 ·refine uy0.2 ⟨fun s hs => ⟨?_, vke hs⟩, uwk fa.sj⟩
  obtain ⟨⟨x, hx, rfl⟩, _⟩ := ujp.1 hs
  exact vko (fa.j x hx)
 ·refine uy0.2 ⟨fun s hs => ⟨?_, vke hs⟩, uwk fa.sn⟩
  obtain ⟨⟨x, hx, rfl⟩, _⟩ := ujp.1 hs
  exact vvx (fa.n x hx)
 ·refine uy0.2 ⟨fun s hs => ⟨?_, vke hs⟩, uwk fa.sl⟩
  obtain ⟨⟨x, hx, rfl⟩, _⟩ := ujp.1 hs
  exact vks (wkt fa hx)
def chgSt (s : St) (d : uq5) : St := ⟨d.upto, chgL JobD.name s.jobs d.jobs d.gj, chgL NodeD.name s.nodes d.nodes d.gn, chgL uqd.job s.leases d.leases d.gl⟩
def xqf (s : St) (d : uq5) : Bool := chgB JobD.name s.jobs d.gj && chgB NodeD.name s.nodes d.gn && chgB uqd.job s.leases d.gl
def wj8 (s : St) (d : uq5) : Nat :=
 if uqv s ≠ 0 then uqv s else if uzs d ≠ 0 then uzs d else if d.frm ≠ s.rev then 10 else if xqf s d = true then uqv (chgSt s d) else 6
def applyS (s : St) (d : uq5) : St := if wj8 s d = 0 then chgSt s d else ⟨0, [], [], []⟩
open Go.RowKit
theorem wqw {l : uqd} (h : ux3 l = 0) : uxb l.job = true ∧ uxb l.node = true ∧ 0 <= l.till ∧ l.till <= 1099511627776 := by
 unfold ux3 at h
 cases h1 : uxb l.job
 ·rw [h1] at h; simp at h
 ·cases h2 : uxb l.node
  ·rw [h1, h2] at h; simp at h
  ·cases h3 : uxa l.till 0 1099511627776
   ·rw [h1, h2, h3] at h; simp at h
   ·exact ⟨rfl, rfl, uqz.1 h3⟩
structure DelFine (d : uq5) : Prop where
 lj : d.jobs.length <= 40
 ln : d.nodes.length <= 20
 ll : d.leases.length <= 40
 gj : d.gj.length <= 40
 gn : d.gn.length <= 20
 gl : d.gl.length <= 40
 j : (∀ x ∈ d.jobs, jobE x = 0) ∧ uq3 JobD.name d.jobs
 n : (∀ x ∈ d.nodes, nodeE x = 0) ∧ uq3 NodeD.name d.nodes
 l : (∀ x ∈ d.leases, ux3 x = 0) ∧ uq3 uqd.job d.leases
 hj : (∀ s ∈ d.gj, uxb s = true ∧ hasJn d.jobs s = false) ∧ uq3 (fun s : ByteArray => s) d.gj
 hn : (∀ s ∈ d.gn, uxb s = true ∧ hasNn d.nodes s = false) ∧ uq3 (fun s : ByteArray => s) d.gn
 hl : (∀ s ∈ d.gl, uxb s = true ∧ hasLn d.leases s = false) ∧ uq3 (fun s : ByteArray => s) d.gl
theorem delFine {d : uq5} (h : uzs d = 0) : DelFine d := by
 obtain ⟨_, h2, h3⟩ := vj2 h
 obtain ⟨⟨a1, a2, a3, a4⟩, a5, a6⟩ := h2
 simp only [uzr, List.mem_cons, List.mem_nil_iff, or_false, forall_eq_or_imp, forall_eq] at h3
 obtain ⟨b1, b2, b3, b4, b5, b6⟩ := h3
 exact ⟨a1, a5, a2, a3, a6, a4, uzi.1 b1, uzi.1 b2, uzi.1 b3, uy0.1 b4, uy0.1 b5, uy0.1 b6⟩
end Go.Proofs.YtibiankbmhdljaaGreatDoor
