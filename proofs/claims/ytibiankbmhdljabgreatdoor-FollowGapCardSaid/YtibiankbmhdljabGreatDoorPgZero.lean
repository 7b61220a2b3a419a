/-
  Several texts in one: ZeroJ, ZeroN, ZeroL, KeyxJ, KeyxN, KeyxL.
-/
import Derived.Test.YtibiankbmhdljabGreatDoorPgStateA
set_option linter.all false
set_option maxHeartbeats 16000000
set_option maxRecDepth 100000
namespace Go.Proofs.YtibiankbmhdljabGreatDoor
open Go.Proofs.Tryz
open Go.RowKit
theorem vvc (W : World) : (zeroValue 62).run prog W = .ok (.agg zwJ) W := by kernel_rfl
theorem vve (W : World) : (zeroValue 64).run prog W = .ok (.agg zwN) W := by kernel_rfl
theorem vvd (W : World) : (zeroValue 66).run prog W = .ok (.agg zwL) W := by kernel_rfl
theorem vkb (x : JobD) (w : World) :
  Calls prog 71 #[.agg (rwJ x)] w fun e w' => e = .returned (.string x.name) ∧ w' = w.alloc (.cells (rwJ x) 62) := by
 go_enter func71, ntmps71
 go_wp2_with fail
 go_ret
 exact ⟨rfl, rfl⟩
theorem vkd (x : NodeD) (w : World) :
  Calls prog 74 #[.agg (rwN x)] w fun e w' => e = .returned (.string x.name) ∧ w' = w.alloc (.cells (rwN x) 64) := by
 go_enter func74, ntmps74
 go_wp2_with fail
 go_ret
 exact ⟨rfl, rfl⟩
theorem vkc (x : uqf) (w : World) :
  Calls prog 77 #[.agg (rwL x)] w fun e w' => e = .returned (.string x.job) ∧ w' = w.alloc (.cells (rwL x) 66) := by
 go_enter func77, ntmps77
 go_wp2_with fail
 go_ret
 exact ⟨rfl, rfl⟩
end Go.Proofs.YtibiankbmhdljabGreatDoor
