/-
  Several texts in one: DelLaw.
-/
import Derived.Test.YtkommikehbbhbaaGreatDoorPkApply
import Derived.Test.YtkommikehbbhbaaGreatDoorPkDelB
import Derived.Test.YtkommikehbbhbaaGreatDoorPkSame
import Derived.Test.YtkommikehbbhbaaGreatDoorPkStateB
import Derived.Test.YtkommikehbbhbaaGreatDoorPkBase
import Derived.IntWalk
/-
  Helpers for the laws of deltas.
-/
set_option linter.unusedVariables false
set_option linter.unusedSimpArgs false
namespace Go.Proofs.YtkommikehbbhbaaGreatDoor
open Go.RowKit
theorem delOk_of {d : DeltaD} (h : deltaE d = 0) : DelOk d :=
  have G := delFine h
  { sz := ⟨by have := G.lj; omega, by have := G.ln; omega, by have := G.ll; omega, by have := G.gj; omega, by have := G.gn; omega, by have := G.gl; omega⟩
    j := fun x hx => by have h1 := (jobE_iff.1 (G.j.1 x hx)).1; exact ⟨Nat.le_trans (nameOk_sz h1.1) (by decide), Nat.le_trans (textOk_sz h1.2) (by decide)⟩
    n := fun x hx => by have h1 := (nodeE_iff.1 (G.n.1 x hx)).1; exact ⟨Nat.le_trans (nameOk_sz h1.1) (by decide), Nat.le_trans (textOk_sz h1.2) (by decide)⟩
    l := fun x hx => by have h1 := leaseC_is (G.l.1 x hx); exact ⟨Nat.le_trans (nameOk_sz h1.1) (by decide), Nat.le_trans (nameOk_sz h1.2.1) (by decide)⟩
    gj := fun s hs => Nat.le_trans (nameOk_sz (G.hj.1 s hs).1) (by decide)
    gn := fun s hs => Nat.le_trans (nameOk_sz (G.hn.1 s hs).1) (by decide)
    gl := fun s hs => Nat.le_trans (nameOk_sz (G.hl.1 s hs).1) (by decide) }
theorem diffE_is {a b : St} (h : diffE a b = 0) : checkE a = 0 ∧ checkE b = 0 ∧ a.rev < b.rev := by
  unfold diffE at h
  by_cases h1 : checkE a = 0
  · rw [if_neg (by simpa using h1)] at h
    by_cases h2 : checkE b = 0
    · rw [if_neg (by simpa using h2)] at h
      by_cases h3 : b.rev ≤ a.rev
      · rw [if_pos h3] at h; cases h
      · exact ⟨h1, h2, by omega⟩
    · rw [if_pos h2] at h; exact absurd h h2
  · rw [if_pos h1] at h; exact absurd h h1
theorem diffE_of {a b : St} (h1 : checkE a = 0) (h2 : checkE b = 0) (h3 : a.rev < b.rev) : diffE a b = 0 := by
  unfold diffE
  rw [if_neg (by simpa using h1), if_neg (by simpa using h2), if_neg (by omega)]
theorem noD_sz : DelSz noD := ⟨by simp [noD], by simp [noD], by simp [noD], by simp [noD], by simp [noD], by simp [noD]⟩
/-- What Diff gives between two states that may be. -/
theorem diff_ok (a b : St) (p1 p2 p3 q1 q2 q3 : Option Addr) (c1 c2 c3 d1 d2 d3 : Nat) (w : World) (ha : StM w w.heap.size p1 p2 p3 a) (hb : StM w w.heap.size q1 q2 q3 b) (hT : Tabs w) (h : checkE a = 0 ∧ checkE b = 0 ∧ a.rev < b.rev) :
    Calls Tryz.prog 17 #[.agg #[Value.int .i64 a.rev, Value.slice p1 a.jobs.length c1, Value.slice p2 a.nodes.length c2, Value.slice p3 a.leases.length c3], .agg #[Value.int .i64 b.rev, Value.slice q1 b.jobs.length d1, Value.slice q2 b.nodes.length d2, Value.slice q3 b.leases.length d3]] w fun e w' => ∃ r1 r2 r3 r4 r5 r6 e1 e2 e3 e4 e5 e6, e = .returned (.tuple #[.agg #[Value.int .i64 (betw a b).frm, Value.int .i64 (betw a b).upto, Value.slice r1 (betw a b).jobs.length e1, Value.slice r2 (betw a b).nodes.length e2, Value.slice r3 (betw a b).leases.length e3, Value.slice r4 (betw a b).gj.length e4, Value.slice r5 (betw a b).gn.length e5, Value.slice r6 (betw a b).gl.length e6], .int .i64 ((0 : Nat) : Int)]) ∧ DelM w' w'.heap.size r1 r2 r3 r4 r5 r6 (betw a b) ∧ Below w.heap.size w w' := by
  have hE := diffE_of h.1 h.2.1 h.2.2
  have hD : diffD a b = betw a b := by unfold diffD; rw [if_pos hE]
  have hd := diff_any a b p1 p2 p3 q1 q2 q3 c1 c2 c3 d1 d2 d3 w ha hb ((fine_iff a).1 h.1).sz ((fine_iff b).1 h.2.1).sz hT
  rw [hE, hD] at hd
  refine hd.mono ?_
  rintro e w' ⟨r1, r2, r3, r4, r5, r6, e1, e2, e3, e4, e5, e6, rfl, hO, hb⟩
  exact ⟨r1, r2, r3, r4, r5, r6, e1, e2, e3, e4, e5, e6, rfl, hO.m, hb⟩
/-- .. applied to the first it is the second. -/
theorem apply_ok (a b : St) (p1 p2 p3 : Option Addr) (c1 c2 c3 : Nat) (r1 r2 r3 r4 r5 r6 : Option Addr) (e1 e2 e3 e4 e5 e6 : Nat) (w : World) (ha : StM w w.heap.size p1 p2 p3 a) (hd : DelM w w.heap.size r1 r2 r3 r4 r5 r6 (betw a b)) (hT : Tabs w) (h : checkE a = 0 ∧ checkE b = 0 ∧ a.rev < b.rev) :
    Calls Tryz.prog 19 #[.agg #[Value.int .i64 a.rev, Value.slice p1 a.jobs.length c1, Value.slice p2 a.nodes.length c2, Value.slice p3 a.leases.length c3], .agg #[Value.int .i64 (betw a b).frm, Value.int .i64 (betw a b).upto, Value.slice r1 (betw a b).jobs.length e1, Value.slice r2 (betw a b).nodes.length e2, Value.slice r3 (betw a b).leases.length e3, Value.slice r4 (betw a b).gj.length e4, Value.slice r5 (betw a b).gn.length e5, Value.slice r6 (betw a b).gl.length e6]] w fun e w' => ∃ q1 q2 q3 d1 d2 d3, e = .returned (.tuple #[.agg #[Value.int .i64 b.rev, Value.slice q1 b.jobs.length d1, Value.slice q2 b.nodes.length d2, Value.slice q3 b.leases.length d3], .int .i64 ((0 : Nat) : Int)]) ∧ StM w' w'.heap.size q1 q2 q3 b ∧ Below w.heap.size w w' := by
  have ho := betw_ok h.1 h.2.1 h.2.2
  have hA := apply_any a (betw a b) p1 p2 p3 c1 c2 c3 r1 r2 r3 r4 r5 r6 e1 e2 e3 e4 e5 e6 w ha hd ((fine_iff a).1 h.1).sz (delOk_of ho) hT
  obtain ⟨h1, h2⟩ := apply_betw h.1 h.2.1 h.2.2
  rw [h1, h2] at hA
  exact hA
/-- .. and it may be told. -/
theorem chk_ok (a b : St) (r1 r2 r3 r4 r5 r6 : Option Addr) (e1 e2 e3 e4 e5 e6 : Nat) (w : World) (hd : DelM w w.heap.size r1 r2 r3 r4 r5 r6 (betw a b)) (hT : Tabs w) (h : checkE a = 0 ∧ checkE b = 0 ∧ a.rev < b.rev) :
    Calls Tryz.prog 20 #[.agg #[Value.int .i64 (betw a b).frm, Value.int .i64 (betw a b).upto, Value.slice r1 (betw a b).jobs.length e1, Value.slice r2 (betw a b).nodes.length e2, Value.slice r3 (betw a b).leases.length e3, Value.slice r4 (betw a b).gj.length e4, Value.slice r5 (betw a b).gn.length e5, Value.slice r6 (betw a b).gl.length e6]] w fun e w' => e = .returned (.int .i64 ((0 : Nat) : Int)) ∧ Below w.heap.size w w' := by
  have ho := betw_ok h.1 h.2.1 h.2.2
  have := delChk_any (betw a b) r1 r2 r3 r4 r5 r6 e1 e2 e3 e4 e5 e6 w hd (delOk_of ho) hT
  rwa [ho] at this
/-- What Diff gives is the call's own. -/
theorem diff_own (a b : St) (p1 p2 p3 q1 q2 q3 : Option Addr) (c1 c2 c3 d1 d2 d3 : Nat) (w : World) (ha : StM w w.heap.size p1 p2 p3 a) (hb : StM w w.heap.size q1 q2 q3 b) (hT : Tabs w) (h : checkE a = 0 ∧ checkE b = 0 ∧ a.rev < b.rev) :
    Calls Tryz.prog 17 #[.agg #[Value.int .i64 a.rev, Value.slice p1 a.jobs.length c1, Value.slice p2 a.nodes.length c2, Value.slice p3 a.leases.length c3], .agg #[Value.int .i64 b.rev, Value.slice q1 b.jobs.length d1, Value.slice q2 b.nodes.length d2, Value.slice q3 b.leases.length d3]] w fun e w' => ∃ r1 r2 r3 r4 r5 r6 e1 e2 e3 e4 e5 e6, e = .returned (.tuple #[.agg #[Value.int .i64 (betw a b).frm, Value.int .i64 (betw a b).upto, Value.slice r1 (betw a b).jobs.length e1, Value.slice r2 (betw a b).nodes.length e2, Value.slice r3 (betw a b).leases.length e3, Value.slice r4 (betw a b).gj.length e4, Value.slice r5 (betw a b).gn.length e5, Value.slice r6 (betw a b).gl.length e6], .int .i64 ((0 : Nat) : Int)]) ∧ DelOwn w' w.heap.size r1 r2 r3 r4 r5 r6 e1 e2 e3 e4 e5 e6 (betw a b) ∧ Below w.heap.size w w' := by
  have hE := diffE_of h.1 h.2.1 h.2.2
  have hD : diffD a b = betw a b := by unfold diffD; rw [if_pos hE]
  have hd := diff_any a b p1 p2 p3 q1 q2 q3 c1 c2 c3 d1 d2 d3 w ha hb ((fine_iff a).1 h.1).sz ((fine_iff b).1 h.2.1).sz hT
  rw [hE, hD] at hd
  exact hd
/-- A delta is not applied to a state of another revision. -/
theorem apply_not (s a b : St) (p1 p2 p3 : Option Addr) (c1 c2 c3 : Nat) (r1 r2 r3 r4 r5 r6 : Option Addr) (e1 e2 e3 e4 e5 e6 : Nat) (w : World) (hs : StM w w.heap.size p1 p2 p3 s) (hd : DelM w w.heap.size r1 r2 r3 r4 r5 r6 (betw a b)) (hT : Tabs w) (hc : checkE s = 0) (h : checkE a = 0 ∧ checkE b = 0 ∧ a.rev < b.rev) (hne : a.rev ≠ s.rev) :
    Calls Tryz.prog 19 #[.agg #[Value.int .i64 s.rev, Value.slice p1 s.jobs.length c1, Value.slice p2 s.nodes.length c2, Value.slice p3 s.leases.length c3], .agg #[Value.int .i64 (betw a b).frm, Value.int .i64 (betw a b).upto, Value.slice r1 (betw a b).jobs.length e1, Value.slice r2 (betw a b).nodes.length e2, Value.slice r3 (betw a b).leases.length e3, Value.slice r4 (betw a b).gj.length e4, Value.slice r5 (betw a b).gn.length e5, Value.slice r6 (betw a b).gl.length e6]] w fun e w' => ∃ q1 q2 q3 d1 d2 d3, e = .returned (.tuple #[.agg #[Value.int .i64 0, Value.slice q1 0 d1, Value.slice q2 0 d2, Value.slice q3 0 d3], .int .i64 10]) ∧ StM w' w'.heap.size q1 q2 q3 ⟨0, [], [], []⟩ ∧ Below w.heap.size w w' := by
  have ho := betw_ok h.1 h.2.1 h.2.2
  have hA := apply_any s (betw a b) p1 p2 p3 c1 c2 c3 r1 r2 r3 r4 r5 r6 e1 e2 e3 e4 e5 e6 w hs hd ((fine_iff s).1 hc).sz (delOk_of ho) hT
  have hE : applyE s (betw a b) = 10 := by unfold applyE; rw [if_neg (by simpa using hc), if_neg (by simpa using ho), if_pos (by simpa [betw] using hne)]
  have hS : applyS s (betw a b) = ⟨0, [], [], []⟩ := by unfold applyS; rw [hE, if_neg (by decide)]
  rw [hE, hS] at hA
  exact hA
theorem DelOwn.cell_ {w : World} {base : Nat} {p1 p2 p3 p4 p5 p6 : Option Addr} {c1 c2 c3 c4 c5 c6 : Nat} {d : DeltaD} (h : DelOwn w base p1 p2 p3 p4 p5 p6 c1 c2 c3 c4 c5 c6 d) {a : Addr} (ha : a.block < base) (u : Value) : DelOwn (w.setCell a u) base p1 p2 p3 p4 p5 p6 c1 c2 c3 c4 c5 c6 d :=
  ⟨OwnR.cell_ h.j ha u, OwnR.cell_ h.n ha u, OwnR.cell_ h.l ha u, OwnR.cell_ h.gj ha u, OwnR.cell_ h.gn ha u, OwnR.cell_ h.gl ha u⟩
theorem zero_sz : StSz ⟨0, [], [], []⟩ := ⟨by simp, by simp, by simp, by simp, by simp, by simp⟩
end Go.Proofs.YtkommikehbbhbaaGreatDoor
