/-
  Several texts in one: EqS, DelM, Betw.
-/
import Derived.Test.YtibiankbmhdljabGreatDoorPkDelA
set_option linter.all false
set_option maxHeartbeats 16000000
set_option maxRecDepth 100000
namespace Go.Proofs.YtibiankbmhdljabGreatDoor
open Go.Proofs.Tryz
open Go.RowKit
theorem uws {w : World} {a : Addr} {v : Value} {k : Nat} (h : At w (a.add (k * 1)) [v]) : w.cell? (a.add k) = some v := by
 have := h 0 v rfl
 rw [Nat.mul_one] at this
 rwa [show (a.add k).add 0 = a.add k from by unfold Addr.add; simp] at this
structure DelM (w : World) (B : Nat) (p1 p2 p3 p4 p5 p6 : Option Addr) (d : uq1) : Prop where
 j : Elts w B 5 p1 (d.jobs.map rowJ)
 n : Elts w B 3 p2 (d.nodes.map rowN)
 l : Elts w B 3 p3 (d.leases.map rowL)
 gj : Elts w B 1 p4 (d.gj.map rowS)
 gn : Elts w B 1 p5 (d.gn.map rowS)
 gl : Elts w B 1 p6 (d.gl.map rowS)
structure DelOwn (w : World) (base : Nat) (p1 p2 p3 p4 p5 p6 : Option Addr) (c1 c2 c3 c4 c5 c6 : Nat) (d : uq1) : Prop where
 j : OwnR w base 62 5 p1 c1 (d.jobs.map rowJ)
 n : OwnR w base 64 3 p2 c2 (d.nodes.map rowN)
 l : OwnR w base 66 3 p3 c3 (d.leases.map rowL)
 gj : OwnR w base 9 1 p4 c4 (d.gj.map rowS)
 gn : OwnR w base 9 1 p5 c5 (d.gn.map rowS)
 gl : OwnR w base 9 1 p6 c6 (d.gl.map rowS)
structure DelSz (d : uq1) : Prop where
 j : d.jobs.length <= 8796093022208
 n : d.nodes.length <= 8796093022208
 l : d.leases.length <= 8796093022208
 gj : d.gj.length <= 8796093022208
 gn : d.gn.length <= 8796093022208
 gl : d.gl.length <= 8796093022208
section
variable {w w' : World} {B base : Nat} {p1 p2 p3 p4 p5 p6 : Option Addr} {c1 c2 c3 c4 c5 c6 : Nat} {d : uq1}
theorem DelOwn.m (h : DelOwn w base p1 p2 p3 p4 p5 p6 c1 c2 c3 c4 c5 c6 d) : DelM w w.heap.size p1 p2 p3 p4 p5 p6 d := ⟨h.j.elts, h.n.elts, h.l.elts, h.gj.elts, h.gn.elts, h.gl.elts⟩
theorem DelOwn.below (h : DelOwn w base p1 p2 p3 p4 p5 p6 c1 c2 c3 c4 c5 c6 d) (hb : Below w.heap.size w w') : DelOwn w' base p1 p2 p3 p4 p5 p6 c1 c2 c3 c4 c5 c6 d := ⟨h.j.below hb, h.n.below hb, h.l.below hb, h.gj.below hb, h.gn.below hb, h.gl.below hb⟩
theorem DelOwn.lower {b : Nat} (h : DelOwn w base p1 p2 p3 p4 p5 p6 c1 c2 c3 c4 c5 c6 d) (hb : b <= base) : DelOwn w b p1 p2 p3 p4 p5 p6 c1 c2 c3 c4 c5 c6 d := ⟨h.j.lower hb, h.n.lower hb, h.l.lower hb, h.gj.lower hb, h.gn.lower hb, h.gl.lower hb⟩
theorem DelM.below (h : DelM w B p1 p2 p3 p4 p5 p6 d) (hb : Below B w w') : DelM w' B p1 p2 p3 p4 p5 p6 d := ⟨h.j.below hb, h.n.below hb, h.l.below hb, h.gj.below hb, h.gn.below hb, h.gl.below hb⟩
theorem DelM.more {b : Nat} (h : DelM w B p1 p2 p3 p4 p5 p6 d) (hb : B <= b) : DelM w b p1 p2 p3 p4 p5 p6 d := ⟨h.j.more hb, h.n.more hb, h.l.more hb, h.gj.more hb, h.gn.more hb, h.gl.more hb⟩
theorem DelM.nil (w : World) (B : Nat) : DelM w B none none none none none none noD := ⟨Elts.nil_, Elts.nil_, Elts.nil_, Elts.nil_, Elts.nil_, Elts.nil_⟩
end
theorem OwnR.cell_ {w : World} {base c size : Nat} {E : TypeId} {p : Option Addr} {rows : List (List Value)} (h : OwnR w base E size p c rows) {a : Addr} (ha : a.block < base) (u : Value) : OwnR (w.setCell a u) base E size p c rows := ⟨h.1, ownsRow_setCell_below h.2 ha u⟩
theorem OwnR.row_ {w : World} {base c size g : Nat} {E : TypeId} {p : Option Addr} {rows : List (List Value)} (h : OwnR w base E size p c rows) (ha : g < base) (cs : Array Value) : OwnR (w.setRow g cs) base E size p c rows :=
 ⟨h.1, World.ownsRow.kept (row := some g) h.2 (growR w g cs) (.inr (fun h0 => by have := (World.ownsRow.lt h.2 g h0).1; omega))⟩
theorem uzt (W : World) : (zeroValue 49).run prog W = .ok (.agg zdv) W := by kernel_rfl
theorem uqx : (prog.info? 49).map (·.size) = some 8 := by kernel_rfl
theorem uve (a b : Int) (r1 r2 r3 r4 r5 r6 : Option Addr) (n1 n2 n3 n4 n5 n6 e1 e2 e3 e4 e5 e6 : Nat) : (#[.int .i64 a, .int .i64 b, .slice r1 n1 e1, .slice r2 n2 e2, .slice r3 n3 e3, .slice r4 n4 e4, .slice r5 n5 e5, .slice r6 n6 e6] : Array Value).all (·.oneCell') = true := by simp [Value.oneCell']
def BetwPost (w : World) (d : uq1) (e : Ending) (w' : World) : Prop :=
 ∃ p1 p2 p3 p4 p5 p6 c1 c2 c3 c4 c5 c6, e = .returned (.agg (dv d p1 p2 p3 p4 p5 p6 c1 c2 c3 c4 c5 c6)) ∧ DelOwn w' w.heap.size p1 p2 p3 p4 p5 p6 c1 c2 c3 c4 c5 c6 d ∧ Below w.heap.size w w'
end Go.Proofs.YtibiankbmhdljabGreatDoor
