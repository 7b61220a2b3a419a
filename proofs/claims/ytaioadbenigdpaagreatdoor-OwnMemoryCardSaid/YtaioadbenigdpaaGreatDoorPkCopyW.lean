/-
  Several texts in one: CopyW.
-/
import Derived.Test.YtaioadbenigdpaaGreatDoorPkOwn
set_option linter.unusedVariables false
set_option linter.unusedSimpArgs false
set_option maxHeartbeats 16000000
set_option maxRecDepth 100000
namespace Go.Proofs.YtaioadbenigdpaaGreatDoor
open Go.RowKit
end Go.Proofs.YtaioadbenigdpaaGreatDoor
