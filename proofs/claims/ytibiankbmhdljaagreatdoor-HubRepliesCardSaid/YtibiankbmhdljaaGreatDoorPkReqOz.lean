/-
  Several texts in one: ReqOz.
-/
import Derived.Test.YtibiankbmhdljaaGreatDoorPkSrvP
set_option linter.all false
set_option maxHeartbeats 16000000
set_option maxRecDepth 100000
namespace Go.Proofs.YtibiankbmhdljaaGreatDoor
open Go.Proofs.Tryz
open Go.RowKit Go.ChangeShapes Go.WideShapes Go.Deep Go.Joins
section
variable {H : Type} {enc : TypeId × Value -> H} {w : World} {base : Nat} {spare : Nat -> Bool} {held : Bool}
theorem open_reqsZ {v : Value} {d : DataW H} {ps : List MemPlace} {ts : List TypeId} {ds : List (DataW H)} {j : Nat} {r : Reach} {b0 : Nat} (hv : Value.okWide prog w r b0 27 v) (h : DataW.Trod enc prog w base spare held 27 v d ps)
  (hsz : (DataW.weightsEach prog ts ds).all (· <= reachBytes) = true) (ht : ts[j]? = some 27) (hdj : ds[j]? = some d) :
  ∃ (p : Option Addr) (c : Nat) (l : List ReqD), v = .slice p l.length c ∧ Elts w w.heap.size 14 p (l.map rowQ) ∧ (∀ x ∈ l, okQ x) ∧ l.length <= 1099511627776 := by
 obtain ⟨p, c, l, rfl, hlc, hcm, hel, hok, hd⟩ := uyg rowQ datQ okQ 14 underlying27 (by kernel_rfl) (by decide) hv h (fun n cs d pl => vy6 n cs d pl)
 refine ⟨p, c, l, rfl, hel, hok, ?_⟩
 rcases hd with ⟨rfl, _⟩ | ⟨rest, rfl⟩
 ·simp
 ·have hb : prog.bytesOf 43 = 168 := by kernel_rfl
  have hm : ∀ n ∈ DataW.weights prog 27 (.slice (l.map datQ) (rest.map datQ) : DataW H), n <= reachBytes := fun n hn =>
   of_decide_eq_true (List.all_eq_true.1 hsz _ (DataW.weights_mem_each (P := prog) ht hdj n hn))
  simp only [DataW.weights, underlying27, hb] at hm
  have hr : reachBytes = 140737488351232 := rfl
  have := hm _ (by simp; left; rfl)
  rw [hr] at this
  omega
end
end Go.Proofs.YtibiankbmhdljaaGreatDoor
