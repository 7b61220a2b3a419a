/-
  Several texts in one: Strs.
-/
import Derived.Test.YtaioadbenigdpaaGreatDoorRows
import Derived.Test.YtaioadbenigdpaaGreatDoorPkBase
set_option linter.unusedVariables false
set_option linter.unusedSimpArgs false
set_option maxHeartbeats 16000000
set_option maxRecDepth 100000
namespace Go.Proofs.YtaioadbenigdpaaGreatDoor
open Go.RowKit Go.ChangeShapes Go.WideShapes Go.Deep
def OwnS (w : World) (base : Nat) (v : Value) (l : List ByteArray) : Prop := w.ownsRow base 9 1 v l.length (l.map Value.string)
theorem OwnS.below {a b : World} {base : Nat} {v : Value} {l : List ByteArray} (h : OwnS a base v l) (hb : Below a.heap.size a b) : OwnS b base v l :=
 World.ownsRow.kept (row := none) h ⟨hb.os, hb.tape, hb.output, hb.size, fun k hk _ => hb.block k hk⟩ (Classical.em _)
theorem OwnS.alloc {a : World} {base : Nat} {v : Value} {l : List ByteArray} (h : OwnS a base v l) (o : Obj) : OwnS (a.alloc o) base v l := World.ownsRow.alloc h o
theorem OwnS.form {w : World} {base : Nat} {v : Value} {l : List ByteArray} (h : OwnS w base v l) : ∃ a c, v = .slice a l.length c := by
 rcases h.2 with ⟨rfl, h0⟩ | ⟨g, cap, cur, rfl, _⟩
 ·exact ⟨none, 0, by rw [h0]⟩
 ·exact ⟨_, cap, rfl⟩
def rowS (s : ByteArray) : List Value := [.string s]
theorem rowsS_flat (l : List ByteArray) : (l.map rowS).flatten = l.map Value.string := by
 induction l with
 | nil => rfl
 | cons x r ih => simp only [List.map_cons, List.flatten_cons, ih, rowS, List.cons_append, List.nil_append]
theorem rowsS_size (l : List ByteArray) : ∀ r ∈ l.map rowS, r.length = 1 := by
 intro r hr
 obtain ⟨x, _, rfl⟩ := List.mem_map.1 hr
 rfl
theorem OwnS.elts {w : World} {base : Nat} {p : Option Addr} {c : Nat} {l : List ByteArray} (h : OwnS w base (.slice p l.length c) l) : Elts w w.heap.size 1 p (l.map rowS) :=
 .of_own (c := c) (rowsS_size l) (by rw [List.length_map, rowsS_flat]; exact h)
theorem string_info : (Tryz.prog.info? 9).map (fun i => (i.zero, i.size, i.bytes)) = some (some (.string ByteArray.empty), 1, 16) := by kernel_rfl
section
variable {w : World} {ops : Array Oper} {rest : List Oper} {o : Oper} {a : Act} {Q : Exit → Act → World → Prop}
end
def rowI (z : Int) : List Value := [.int .i64 z]
def datI {H : Type} (z : Int) : DataW H := .lit (.int .i64 z)
def okI (z : Int) : Prop := -9223372036854775808 ≤ z ∧ z ≤ 9223372036854775807
end Go.Proofs.YtaioadbenigdpaaGreatDoor
