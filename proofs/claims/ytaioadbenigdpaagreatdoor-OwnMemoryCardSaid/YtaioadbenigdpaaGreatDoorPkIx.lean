/-
  Several texts in one: IxP.
-/
import Derived.Test.YtaioadbenigdpaaGreatDoorPkStateA
import Derived.Test.YtaioadbenigdpaaGreatDoorPkBase
set_option linter.unusedVariables false
set_option linter.unusedSimpArgs false
set_option maxHeartbeats 16000000
set_option maxRecDepth 100000
namespace Go.Proofs.YtaioadbenigdpaaGreatDoor
open Go.RowKit
def pIx {α : Type} (f : α → Bool) : List α → Nat → Int
 | [], _ => -1
 | x :: r, i => if f x = true then (i : Int) else pIx f r (i + 1)
theorem pIx_cons {α : Type} (f : α → Bool) (x : α) (r : List α) (i : Nat) : pIx f (x :: r) i = if f x = true then (i : Int) else pIx f r (i + 1) := rfl
theorem pIx_any {α : Type} (f : α → Bool) : ∀ (l : List α) (i : Nat), decide (0 ≤ pIx f l i) = l.any f
 | [], _ => rfl
 | x :: r, i => by
  rw [pIx_cons, List.any_cons]
  cases h : f x
  ·rw [if_neg (by simp), pIx_any f r (i + 1)]; simp
  ·rw [if_pos rfl]; simp
theorem pIx_bd {α : Type} (f : α → Bool) : ∀ (l : List α) (i : Nat), -1 ≤ pIx f l i ∧ pIx f l i < i + l.length + 1
 | [], i => by simp [pIx]; omega
 | x :: r, i => by
  have := pIx_bd f r (i + 1)
  rw [pIx_cons, List.length_cons]
  split <;> omega
structure FnOk {α : Type} (P : Program) (w : World) (K : FuncId) (caps : Array Value) (row : α → List Value) (f : α → Bool) (l : List α) : Prop where
 enter : ∀ (args : Array Value) (W : World), (callFunc K args).run P W = .ok (.enter K args) W
 calls : ∀ x ∈ l, ∀ W, Below w.heap.size w W → Calls P K (#[.agg (row x).toArray] ++ caps) W fun e W' => e = .returned (.bool (f x)) ∧ Below W.heap.size W W'
end Go.Proofs.YtaioadbenigdpaaGreatDoor
