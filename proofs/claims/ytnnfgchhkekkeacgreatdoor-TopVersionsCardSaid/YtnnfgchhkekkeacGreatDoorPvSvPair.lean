/- Lemmas.
-/
import Derived.Test.YtnnfgchhkekkeacGreatDoorPvSvDoB
set_option linter.all false
set_option maxHeartbeats 16000000
set_option maxRecDepth 100000
namespace Go.Proofs.YtnnfgchhkekkeacGreatDoor
open Go.Proofs.Tryz
open Go.RowKit
theorem ReqSz.of {q:ReqD} (h:okQ q):ReqSz q:=⟨h.2.1.1.1,h.2.1.1.2,h.2.2.1.1.1,h.2.2.1.1.2,h.2.2.2.1.1.1,h.2.2.2.1.1.2,h.2.2.2.2.1⟩
theorem sz0:ByteArray.empty.size<=9223372036854775807:=by decide
end Go.Proofs.YtnnfgchhkekkeacGreatDoor
