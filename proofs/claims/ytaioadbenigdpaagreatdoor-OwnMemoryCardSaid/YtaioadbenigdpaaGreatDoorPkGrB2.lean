/-
  Several texts in one: GrB2.
-/
import Derived.Test.YtaioadbenigdpaaGreatDoorPkHeld
import Derived.Test.YtaioadbenigdpaaGreatDoorPkOwn
import Derived.Test.YtaioadbenigdpaaGreatDoorPkDelA
set_option linter.unusedVariables false
set_option linter.unusedSimpArgs false
set_option maxHeartbeats 16000000
set_option maxRecDepth 100000
namespace Go.Proofs.YtaioadbenigdpaaGreatDoor
open Go.RowKit
section
variable {w W W' : World} {g : Nat}
theorem GrB.grown {row : Option Nat} (h : GrB w g W) (hg : W.grownBy W' row) (hr : ∀ k, row = some k → w.heap.size ≤ k) : GrB w g W' :=
 ⟨hg.os.trans h.os, hg.tape.trans h.tape, hg.output.trans h.output, Nat.le_trans h.size hg.size, fun k hk hne => (hg.block k (Nat.lt_of_lt_of_le hk h.size) (fun e => by have := hr k e.symm; omega)).trans (h.block k hk hne)⟩
theorem GrB.cell (h : GrB w g W) (i : Nat) (v : Value) : GrB w g (W.setCell ⟨g, i, none⟩ v) :=
 ⟨h.os, h.tape, h.output, by simpa using h.size, fun k hk hne => (Below.heap_setCell _ _ _ k (fun e => hne (by rw [e]))).trans (h.block k hk hne)⟩
theorem GrB.own {base c size : Nat} {E : TypeId} {p : Option Addr} {rows : List (List Value)} (h : GrB w g W) (ho : OwnR w base E size p c rows) (hb : g < base) : OwnR W base E size p c rows :=
 ⟨ho.1, World.ownsRow.kept (row := some g) ho.2 h (.inr (fun h0 => by have := (World.ownsRow.lt ho.2 g h0).1; omega))⟩
theorem GrB.low {w0 : World} (hc : Below w0.heap.size w0 w) (h : GrB w g W) (hB : w0.heap.size ≤ g) : Below w0.heap.size w0 W := hc.grown h hc.size (fun k e => by cases e; exact hB)
theorem GrB.then2 {W2 : World} (h : GrB w g W) (h2 : GrB W g W2) : GrB w g W2 :=
 ⟨h2.os.trans h.os, h2.tape.trans h.tape, h2.output.trans h.output, Nat.le_trans h.size h2.size, fun k hk hne => (h2.block k (Nat.lt_of_lt_of_le hk h.size) hne).trans (h.block k hk hne)⟩
end
end Go.Proofs.YtaioadbenigdpaaGreatDoor
