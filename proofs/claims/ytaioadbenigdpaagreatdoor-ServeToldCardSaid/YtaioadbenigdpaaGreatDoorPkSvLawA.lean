/-
  Several texts in one: SvLawA.
-/
import Derived.Test.YtaioadbenigdpaaGreatDoorPkSvLaw
import Derived.Test.YtaioadbenigdpaaGreatDoorPkApply
import Derived.Test.YtaioadbenigdpaaGreatDoorPkDelEq
set_option linter.unusedVariables false
set_option linter.unusedSimpArgs false
set_option maxHeartbeats 16000000
set_option maxRecDepth 100000
namespace Go.Proofs.YtaioadbenigdpaaGreatDoor
open Go.RowKit
theorem apply_svl (a b : St) (p1 p2 p3 : Option Addr) (c1 c2 c3 : Nat) (r1 r2 r3 r4 r5 r6 : Option Addr) (e1 e2 e3 e4 e5 e6 : Nat) (w : World) (ha : StM w w.heap.size p1 p2 p3 a) (hd : DelM w w.heap.size r1 r2 r3 r4 r5 r6 (betw a b)) (hT : Tabs w) (h : checkE a = 0 ∧ checkE b = 0 ∧ a.rev < b.rev) :
    Calls Tryz.prog 16 #[.agg #[.int .i64 a.rev, .slice p1 a.jobs.length c1, .slice p2 a.nodes.length c2, .slice p3 a.leases.length c3], .agg #[.int .i64 (betw a b).frm, .int .i64 (betw a b).upto, .slice r1 (betw a b).jobs.length e1, .slice r2 (betw a b).nodes.length e2, .slice r3 (betw a b).leases.length e3, .slice r4 (betw a b).gj.length e4, .slice r5 (betw a b).gn.length e5, .slice r6 (betw a b).gl.length e6]] w fun e w' => ∃ q1 q2 q3 d1 d2 d3, e = .returned (.tuple #[.agg #[.int .i64 b.rev, .slice q1 b.jobs.length d1, .slice q2 b.nodes.length d2, .slice q3 b.leases.length d3], .int .i64 ((0 : Nat) : Int)]) ∧ StM w' w'.heap.size q1 q2 q3 b ∧ Below w.heap.size w w' := by
  have ho := betw_ok h.1 h.2.1 h.2.2
  have G := delFine ho
  have hk : DelOk (betw a b) :=
  { sz := ⟨by have := G.lj; omega, by have := G.ln; omega, by have := G.ll; omega, by have := G.gj; omega, by have := G.gn; omega, by have := G.gl; omega⟩
    j := fun x hx => by have h1 := (jobE_iff.1 (G.j.1 x hx)).1; exact ⟨Nat.le_trans (nameOk_sz h1.1) (by decide), Nat.le_trans (textOk_sz h1.2) (by decide)⟩
    n := fun x hx => by have h1 := (nodeE_iff.1 (G.n.1 x hx)).1; exact ⟨Nat.le_trans (nameOk_sz h1.1) (by decide), Nat.le_trans (textOk_sz h1.2) (by decide)⟩
    l := fun x hx => by have h1 := leaseC_is (G.l.1 x hx); exact ⟨Nat.le_trans (nameOk_sz h1.1) (by decide), Nat.le_trans (nameOk_sz h1.2.1) (by decide)⟩
    gj := fun s hs => Nat.le_trans (nameOk_sz (G.hj.1 s hs).1) (by decide)
    gn := fun s hs => Nat.le_trans (nameOk_sz (G.hn.1 s hs).1) (by decide)
    gl := fun s hs => Nat.le_trans (nameOk_sz (G.hl.1 s hs).1) (by decide) }
  have hA := apply_any a (betw a b) p1 p2 p3 c1 c2 c3 r1 r2 r3 r4 r5 r6 e1 e2 e3 e4 e5 e6 w ha hd ((fine_iff a).1 h.1).sz hk hT
  obtain ⟨h1, h2⟩ := apply_betw h.1 h.2.1 h.2.2
  rw [h1, h2] at hA
  exact hA
end Go.Proofs.YtaioadbenigdpaaGreatDoor
