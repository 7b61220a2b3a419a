/- Lemmas.
-/
import Derived.Test.YtnnfgchhkekkeacGreatDoorPvPlay
set_option linter.all false
set_option maxHeartbeats 16000000
set_option maxRecDepth 100000
namespace Go.Proofs.YtnnfgchhkekkeacGreatDoor
open Go.Proofs.Tryz
def vww (l:List ReqD):Zlu:=(l.map uzq).flatten
def act3 (p:Zba):ActD:=⟨3,p⟩
def strs8 (o:Nat->List Fr):List Zba:=[bstr (encs (o 0)),bstr (encs (o 1)),bstr (encs (o 2)),bstr (encs (o 3)),bstr (encs (o 4)),bstr (encs (o 5)),bstr (encs (o 6)),bstr (encs (o 7))]
theorem outA_flat (o:Nat->List Fr):(outA o).toList=((strs8 o).map rowS).flatten:=rfl
theorem act_info:(prog.info? 50).map (fun i=>(i.zero,i.size,i.bytes))=some (some (.agg #[.int .i64 0,.string .empty]),2,24):=by kernel_rfl
theorem actRows_len (l:List ActD):∀r∈l.map rowA,r.length=2:=by
 intro r hr
 obtain⟨x,_,rfl⟩:=List.mem_map.1 hr
 rfl
end Go.Proofs.YtnnfgchhkekkeacGreatDoor
