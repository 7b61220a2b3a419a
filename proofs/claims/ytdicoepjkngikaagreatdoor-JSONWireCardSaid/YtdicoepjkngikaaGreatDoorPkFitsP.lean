/-
  Several texts in one: FitsP.
-/
import Derived.Test.YtdicoepjkngikaaGreatDoorPkStateA
/-
  Plain: does a state fit a version?
-/
set_option linter.unusedVariables false
set_option linter.unusedSimpArgs false
namespace Go.Proofs.YtdicoepjkngikaaGreatDoor
def fitJ (v : Int) (x : JobD) : Bool := (decide (2 < v) || x.tag.toList.isEmpty) && (decide (1 < v) || (x.tries == 0))
def fitN (v : Int) (x : NodeD) : Bool := decide (1 < v) || x.zone.toList.isEmpty
def fitR (v : Int) (s : St) : Bool := (v == 3) || (s.rev == 0)
def fitsB (s : St) (v : Int) : Bool := fitR v s && s.jobs.all (fitJ v) && s.nodes.all (fitN v)
def fitsR (s : St) (v : Int) : Bool × Nat := if checkE s ≠ 0 then (false, checkE s) else if withinB v 1 3 then (fitsB s v, 0) else (false, 1)
theorem all_take {α : Type} (f : α → Bool) (l : List α) (k : Nat) (x : α) (h : l[k]? = some x) : (l.take (k + 1)).all f = ((l.take k).all f && f x) := by
  rw [List.take_add_one, h, Option.toList_some, List.all_append]
  simp
end Go.Proofs.YtdicoepjkngikaaGreatDoor
