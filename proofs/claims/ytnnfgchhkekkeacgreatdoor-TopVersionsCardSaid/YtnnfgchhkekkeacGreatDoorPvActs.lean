/- Lemmas.
-/
import Derived.Test.YtnnfgchhkekkeacGreatDoorPvHubS
set_option linter.all false
set_option maxHeartbeats 16000000
set_option maxRecDepth 100000
namespace Go.Proofs.YtnnfgchhkekkeacGreatDoor
open Go.Proofs.Tryz
open Go.RowKit Go.ChangeShapes Go.WideShapes Go.Deep Go.Joins
structure ActD where
 conn:Int
 bytes:Zba
def rowA (x:ActD):List Value:=[.int .i64 x.conn,.string x.bytes]
def datA {H:Type} (x:ActD):DataW H:=.agg [.lit (.int .i64 x.conn),.lit (.string x.bytes.data.toList)]
def okA (x:ActD):Prop:=i64B x.conn/\x.bytes.size<=9223372036854775807
section
variable {H:Type} {enc:TypeId×Value->H} {w:World} {base:Nat} {spare:Nat->Bool} {held:Bool}
end
def uz5 (l:List ActD):Nat:=(l.map fun x=>x.bytes.size).sum
structure QI (h:HubD) (n:Nat):Prop where
 v:SrvOk h.srv
 c:h.c 6=newC
 w:∀i,i<n->(h.c i).waits=[]
theorem QI.less {h:HubD} {n m:Nat} (q:QI h n) (hm:m<=n):QI h m:=⟨q.v,q.c,fun i hi=>q.w i (by omega)⟩
theorem QI.new {s:St} (F:Fine s):QI (newH s) 8:=⟨vjr F,rfl,fun _ _=>rfl⟩
theorem QI.flush {h:HubD} {n:Nat} (q:QI h n) (k:Nat):QI (h.flush k) n:=by
 refine⟨q.v,?_,fun i hi=>?_⟩
 ·by_cases hk:6=k
  ·subst hk;rw[uv9,q.c];rfl
  ·rw[uy4 _ hk];exact q.c
 ·by_cases hk:i=k
  ·subst hk;exact uy3 _ _
  ·rw[uy4 _ hk];exact q.w i hi
theorem QI.send {h:HubD} {n:Nat} (q:QI h n) {k:Nat} (hk:k≠6) (s:Zlu):QI (h.send k s) 0:=by
 refine⟨vwh q.v k s,?_,fun i hi=>absurd hi (Nat.not_lt_zero _)⟩
 rw[vk4 (fun e=>hk e.symm) (by rw[q.c];rfl)]
 exact q.c
theorem QI.len {h:HubD} (q:QI h 8) {i:Nat} (hi:i<8):h.len i=0:=by
 unfold HubD.len
 rw[q.w i hi,uz2]
 rfl
theorem wz4 {l:List ActD} {x:ActD} (h:x∈l):x.bytes.size<=uz5 l:=by
 unfold uz5
 induction l with
 | nil=>cases h
 | cons y r ih =>
  rw[List.map_cons,List.sum_cons]
  rcases List.mem_cons.1 h with rfl | h
  ·omega
  ·have:=ih h;omega
theorem wz3:(prog.info? 50).map (·.size)=some 2:=by kernel_rfl
theorem wq1 (W:World):(zeroValue 50).run prog W=.ok (.agg #[.int .i64 0,.string .empty]) W:=by kernel_rfl
theorem one_act (a:Int) (s:Zba):(#[.int .i64 a,.string s]:Array Value).all (·.oneCell')=true:=by simp[Value.oneCell']
end Go.Proofs.YtnnfgchhkekkeacGreatDoor
