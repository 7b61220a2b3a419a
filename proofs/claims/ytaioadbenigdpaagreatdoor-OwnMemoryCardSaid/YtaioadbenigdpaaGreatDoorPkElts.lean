/-
  Several texts in one: EltsTD.
-/
import Derived.Test.YtaioadbenigdpaaGreatDoorPkBase
set_option linter.unusedVariables false
set_option linter.unusedSimpArgs false
set_option maxHeartbeats 16000000
set_option maxRecDepth 100000
namespace Go.Proofs.YtaioadbenigdpaaGreatDoor
section
variable {w : World} {B size : Nat} {p : Option Addr} {rows : List (List Value)}
theorem Blk.reads1 {g : Nat} {t : TypeId} {cs : Array Value} (h : Blk w g t cs) (hs : cs.size = size) : Reads w w.heap.size size (some ⟨g, 0, none⟩) 1 cs.toList := by
 refine ⟨by simp [hs], fun _ => ⟨_, rfl, h.lt, fun j u hu => ?_⟩⟩
 have hadd : (⟨g, 0, none⟩ : Addr).add j = ⟨g, j, none⟩ := by unfold Addr.add; split <;> simp_all
 rw [hadd, h.cell j]
 simpa using hu
end
end Go.Proofs.YtaioadbenigdpaaGreatDoor
