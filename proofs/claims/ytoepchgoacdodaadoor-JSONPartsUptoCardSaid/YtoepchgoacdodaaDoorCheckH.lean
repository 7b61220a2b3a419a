/-
  The contract of state.check.
-/
import Derived.Test.YtoepchgoacdodaaDoorRowsJ
import Derived.Test.YtoepchgoacdodaaDoorRowsN
import Derived.Test.YtoepchgoacdodaaDoorRowsL
import Derived.Test.YtoepchgoacdodaaDoorStL
set_option linter.unusedVariables false
set_option linter.unusedSimpArgs false
namespace Go.Proofs.YtoepchgoacdodaaDoor
open Go.RowKit
/-- A state as it lies in memory, below block B. -/
structure StM (w : World) (B : Nat) (p1 p2 p3 : Option Addr) (s : St) : Prop where
  j : Elts w B 5 p1 (s.jobs.map rowJ)
  n : Elts w B 3 p2 (s.nodes.map rowN)
  l : Elts w B 3 p3 (s.leases.map rowL)
theorem StM.below {w w' : World} {B : Nat} {p1 p2 p3 : Option Addr} {s : St} (h : StM w B p1 p2 p3 s) (hb : Below B w w') : StM w' B p1 p2 p3 s := ⟨h.j.below hb, h.n.below hb, h.l.below hb⟩
theorem StM.more {w : World} {B B' : Nat} {p1 p2 p3 : Option Addr} {s : St} (h : StM w B p1 p2 p3 s) (hb : B ≤ B') : StM w B' p1 p2 p3 s := ⟨h.j.more hb, h.n.more hb, h.l.more hb⟩
/-- Sizes that fit the machine. -/
structure StSz (s : St) : Prop where
  j : ∀ x ∈ s.jobs, x.name.size ≤ 9223372036854775807 ∧ x.tag.size ≤ 9223372036854775807
  n : ∀ x ∈ s.nodes, x.name.size ≤ 9223372036854775807 ∧ x.zone.size ≤ 9223372036854775807
  nr : ∀ x ∈ s.nodes, -9223372036854775808 ≤ x.room ∧ x.room ≤ 9223372036854775807
  lj : s.jobs.length ≤ 4611686018427387904
  ln : s.nodes.length ≤ 4611686018427387904
  ll : s.leases.length ≤ 4611686018427387904
section
variable {w : World} {gt bj bn bu : Nat} {jobs : List JobD} {nodes : List NodeD} {u : ByteArray → Int}
theorem jobAt_snoc (l : List JobD) (x : JobD) (nm : ByteArray) (h : jobAt l x.name = none) : jobAt (l ++ [x]) nm = if x.name = nm then some x else jobAt l nm := by
  unfold jobAt at h ⊢
  rw [List.find?_append]
  by_cases hx : x.name = nm
  · subst hx; rw [h]; simp
  · rw [if_neg hx]; simp [hx]
theorem nodeAt_snoc (l : List NodeD) (x : NodeD) (nm : ByteArray) (h : nodeAt l x.name = none) : nodeAt (l ++ [x]) nm = if x.name = nm then some x else nodeAt l nm := by
  unfold nodeAt at h ⊢
  rw [List.find?_append]
  by_cases hx : x.name = nm
  · subst hx; rw [h]; simp
  · rw [if_neg hx]; simp [hx]
theorem TabIs.putJ (h : TabIs w gt bj bn bu jobs nodes u) (hne : gt ≠ bj ∧ bn ≠ bj ∧ bu ≠ bj) (x : JobD) (hx : jobAt jobs x.name = none) :
    ∃ w', (Instr.mapUpdate 61 (.map (some bj)) (.string x.name) (valJ x)).run Tryd.prog w = .ok () w' ∧ TabIs w' gt bj bn bu (jobs ++ [x]) nodes u ∧ w.grownBy w' (some bj) := by
  obtain ⟨m, hm, hg⟩ := h.mj
  obtain ⟨w', h1, h2, h3, h4⟩ := run_update_map (P := Tryd.prog) hm Tryd.underlying61 Tryd.underlying9 x.name (valJ x)
  refine ⟨w', h1, ⟨?_, ⟨_, h2, fun nm => ?_⟩, ?_, ?_⟩, h3⟩
  · exact (h3.block gt h.blk.lt (by intro h0; injection h0 with h0; exact hne.1 h0)).trans h.blk
  · rw [getM_put, hg, jobAt_snoc _ _ _ hx]
    by_cases h5 : x.name = nm
    · rw [if_pos h5, if_pos h5]; rfl
    · rw [if_neg h5, if_neg h5]
  · obtain ⟨m, a1, a2⟩ := h.mn
    exact ⟨m, a1.grown h3 (by intro h0; injection h0 with h0; exact hne.2.1 h0), a2⟩
  · obtain ⟨m, a1, a2⟩ := h.mu
    exact ⟨m, a1.grown h3 (by intro h0; injection h0 with h0; exact hne.2.2 h0), a2⟩
theorem TabIs.putN (h : TabIs w gt bj bn bu jobs nodes u) (hne : gt ≠ bn ∧ bj ≠ bn ∧ bu ≠ bn) (x : NodeD) (hx : nodeAt nodes x.name = none) :
    ∃ w', (Instr.mapUpdate 62 (.map (some bn)) (.string x.name) (valN x)).run Tryd.prog w = .ok () w' ∧ TabIs w' gt bj bn bu jobs (nodes ++ [x]) u ∧ w.grownBy w' (some bn) := by
  obtain ⟨m, hm, hg⟩ := h.mn
  obtain ⟨w', h1, h2, h3, h4⟩ := run_update_map (P := Tryd.prog) hm Tryd.underlying62 Tryd.underlying9 x.name (valN x)
  refine ⟨w', h1, ⟨?_, ?_, ⟨_, h2, fun nm => ?_⟩, ?_⟩, h3⟩
  · exact (h3.block gt h.blk.lt (by intro h0; injection h0 with h0; exact hne.1 h0)).trans h.blk
  · obtain ⟨m, a1, a2⟩ := h.mj
    exact ⟨m, a1.grown h3 (by intro h0; injection h0 with h0; exact hne.2.1 h0), a2⟩
  · rw [getM_put, hg, nodeAt_snoc _ _ _ hx]
    by_cases h5 : x.name = nm
    · rw [if_pos h5, if_pos h5]; rfl
    · rw [if_neg h5, if_neg h5]
  · obtain ⟨m, a1, a2⟩ := h.mu
    exact ⟨m, a1.grown h3 (by intro h0; injection h0 with h0; exact hne.2.2 h0), a2⟩
end
theorem grown_above {B b : Nat} {a w w' : World} (h : Below B a w) (hg : w.grownBy w' (some b)) (hb : B ≤ b) (hB : B ≤ w.heap.size) : Below B a w' :=
  h.grown hg hB (fun k hk => by injection hk with hk; omega)
theorem MapIs.made (w : World) : MapIs (w.alloc (.map #[] 0)) w.heap.size [] := ⟨#[], 0, heap_alloc_new w _, rfl, by simp⟩
theorem tables_made (w : World) : TabIs ((((w.alloc (.map #[] 0)).alloc (.map #[] 0)).alloc (.map #[] 0)).alloc (.cells #[.map (some w.heap.size), .map (some (w.heap.size + 1)), .map (some (w.heap.size + 1 + 1))] 65)) (w.heap.size + 1 + 1 + 1) w.heap.size (w.heap.size + 1) (w.heap.size + 1 + 1) [] [] (fun _ => 0) := by
  have s1 : (w.alloc (.map #[] 0)).heap.size = w.heap.size + 1 := by simp
  have s2 : ((w.alloc (.map #[] 0)).alloc (.map #[] 0)).heap.size = w.heap.size + 1 + 1 := by simp
  have s3 : (((w.alloc (.map #[] 0)).alloc (.map #[] 0)).alloc (.map #[] 0)).heap.size = w.heap.size + 1 + 1 + 1 := by simp
  have hal : ∀ (a : World) (o : Obj), Below a.heap.size a (a.alloc o) := fun a o => (Below.refl _ _).alloc (Nat.le_refl _) _
  have m1 := (((MapIs.made w).below (hal _ (.map #[] 0))).below (hal _ (.map #[] 0))).below (hal _ (.cells #[.map (some w.heap.size), .map (some (w.heap.size + 1)), .map (some (w.heap.size + 1 + 1))] 65))
  have m2 := ((MapIs.made (w.alloc (.map #[] 0))).below (hal _ (.map #[] 0))).below (hal _ (.cells #[.map (some w.heap.size), .map (some (w.heap.size + 1)), .map (some (w.heap.size + 1 + 1))] 65))
  have m3 := (MapIs.made ((w.alloc (.map #[] 0)).alloc (.map #[] 0))).below (hal _ (.cells #[.map (some w.heap.size), .map (some (w.heap.size + 1)), .map (some (w.heap.size + 1 + 1))] 65))
  have b4 := Blk.new (((w.alloc (.map #[] 0)).alloc (.map #[] 0)).alloc (.map #[] 0)) 65 #[.map (some w.heap.size), .map (some (w.heap.size + 1)), .map (some (w.heap.size + 1 + 1))]
  rw [s1] at m2
  rw [s2] at m3
  rw [s3] at b4
  exact ⟨b4, ⟨[], m1, fun _ => rfl⟩, ⟨[], m2, fun _ => rfl⟩, ⟨[], m3, fun _ => rfl⟩⟩
def CheckPost (w : World) (s : St) (e : Ending) (w' : World) : Prop :=
  Below w.heap.size w w' ∧ ((checkE s ≠ 0 ∧ e = .returned (.tuple #[.pointer none, .int .i64 (checkE s : Int)])) ∨
    (checkE s = 0 ∧ ∃ gt bj bn bu, e = .returned (.tuple #[.pointer (some ⟨gt, 0, none⟩), .int .i64 0]) ∧ TabIs w' gt bj bn bu s.jobs s.nodes (fun nm => usedBy s.jobs nm s.leases)))
end Go.Proofs.YtoepchgoacdodaaDoor
