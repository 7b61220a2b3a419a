/-
  Several texts in one: SvTold.
-/
import Derived.Test.YtaioadbenigdpaaGreatDoorPkSvLawA
set_option linter.unusedVariables false
set_option linter.unusedSimpArgs false
set_option maxHeartbeats 16000000
set_option maxRecDepth 100000
namespace Go.Proofs.YtaioadbenigdpaaGreatDoor
open Go.RowKit
theorem told_is {v : Srv} (hv : SrvOk v) (q : ReqD) : ((doR v q).told.isSome = true → (doR v q).code = 0 ∧ toldD (doR v q) = betw v.st (doR v q).srv.st ∧ v.st.rev < (doR v q).srv.st.rev) ∧ ((doR v q).told.isSome = false → (doR v q).srv.st = v.st ∧ toldD (doR v q) = noD) := by
 rcases doR_ways v q with ⟨_, _, _, he⟩ | ⟨h1, _, h3, he⟩ | ⟨h1, h2, he⟩ | ⟨_, he⟩ <;> rw [he]
 ·exact ⟨fun h => (by cases h), fun _ => ⟨rfl, rfl⟩⟩
 ·exact ⟨fun _ => ⟨rfl, rfl, by show v.st.rev < v.st.rev + 1; omega⟩, fun h => (by cases h)⟩
 ·exact ⟨fun h => (by cases h), fun _ => ⟨rfl, rfl⟩⟩
 ·exact ⟨fun h => (by cases h), fun _ => ⟨rfl, rfl⟩⟩
def RowsAt (w0 w : World) (q1 q2 q3 : Option Addr) (d1 d2 d3 : Nat) (s : St) : Prop := StM w0 w0.heap.size q1 q2 q3 s ∨ StOwn w 0 q1 q2 q3 d1 d2 d3 s
section
variable {w0 w w' : World} {q1 q2 q3 : Option Addr} {d1 d2 d3 : Nat} {s : St}
theorem RowsAt.below (h : RowsAt w0 w q1 q2 q3 d1 d2 d3 s) (hb : Below w.heap.size w w') : RowsAt w0 w' q1 q2 q3 d1 d2 d3 s := h.imp id fun h => h.below hb
theorem RowsAt.other {g : Nat} {E : TypeId} {cur : Array Value} (h : RowsAt w0 w q1 q2 q3 d1 d2 d3 s) (hg : w.grownBy w' (some g)) (hb : Blk w g E cur) (h1 : 31 ≠ E) (h2 : 34 ≠ E) (h3 : 37 ≠ E) : RowsAt w0 w' q1 q2 q3 d1 d2 d3 s :=
 h.imp id fun h => h.other hg hb h1 h2 h3
theorem RowsAt.mm (h : RowsAt w0 w q1 q2 q3 d1 d2 d3 s) (hc : Below w0.heap.size w0 w) : StM w w.heap.size q1 q2 q3 s :=
 h.elim (fun h => (h.below hc).more hc.size) (fun h => h.m)
end
theorem noD_szS : DelSz noD := ⟨by simp [noD], by simp [noD], by simp [noD], by simp [noD], by simp [noD], by simp [noD]⟩
end Go.Proofs.YtaioadbenigdpaaGreatDoor
