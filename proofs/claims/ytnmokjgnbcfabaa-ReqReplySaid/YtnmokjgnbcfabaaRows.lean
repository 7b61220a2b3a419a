/-
  No cell of these rows narrows 'for every input' (looked for: loops, veiled, ifaces, maps, wideKeys, modest, calm, conditions, laid).
  DERIVED. THE GIVEN ROWS OF THIS SEAT. 5 by the template 'for every input the law returns true; each argument reads behind the call as it read before'; 0 by the template 'total and deterministic' (their statements: YtnmokjgnbcfabaaTotals.lean).
  GIVEN WITH THE SEED: the statements are not yours to turn. If you find one false, say at which input.
  Laid BY PROGRAM, IN A SANDBOX (cutbox-rows.mjs): the forced cells as the released guide's own fill.sh prints them over the translation bdcfc284bd73341c… (all of the seat's roots in one cut). By AI agents, Wed Nov 11 2026. No macro, syntax, notation, axiom, sorry.
-/
import Derived.Test.YtnmokjgnbcfabaaChecked
import GoSem.Claim
import GoSem.ClaimJoined
import GoSem.ClaimMapViews
import Derived.JoinedTies
import Derived.KernelRfl
namespace Go.Proofs.Ytnmokjgnbcfabaa
/- THE CELL 'sum', in the pinned program and in every row, IS THE sha256 OF THE DUMP (.gsa) THAT YtnmokjgnbcfabaaProg.lean LOADS. Nothing in Lean hashes anything: it is a label: what it is worth is what the hold of that sum in a sandbox is worth. -/
noncomputable def Try.pinned : Pinned := { name := "ytnmokjgnbcfabaa", sum := "bdcfc284bd73341cd09a7a732664a9701d8629b62e4f5f917c23811e3c6fee97", checked := Try.checked }
namespace Rows
def none {H : Type} : Left H := { results := [], args := [] }

/-- 'brackenkeep.ReqBack': WHATEVER THE INPUT: true; the input reads as it did. -/
def reqBackSpec : ChangeSpec := { name := "reqBack", fn := fun _ => fun
  | [d1, d2] => { results := [.lit (.bool true)], args := [d1, d2] }
  | _ => none }
def reqBackRow : OpenClaim := { program := "ytnmokjgnbcfabaa", sum := "bdcfc284bd73341cd09a7a732664a9701d8629b62e4f5f917c23811e3c6fee97", func := "bracken/brackenkeep.ReqBack", spec := "reqBack", unfollowed := true, recurses := true, apart := false }
def ReqBackSaid : Prop := reqBackRow.holds Try.pinned (OpenSpec.ofChange reqBackSpec)

/-- ITS FALSE NEIGHBOUR: 'it returns false'. Refute it at one input. -/
def reqBackWrong : ChangeSpec := { name := "reqBack", fn := fun _ => fun
  | [d1, d2] => { results := [.lit (.bool false)], args := [d1, d2] }
  | _ => none }
def ReqBackWrongFalsely : Prop := reqBackRow.holds Try.pinned (OpenSpec.ofChange reqBackWrong)

/-- 'brackenkeep.ReqOne': WHATEVER THE INPUT: true; the input reads as it did. -/
def reqOneSpec : ChangeSpec := { name := "reqOne", fn := fun _ => fun
  | [d1, d2] => { results := [.lit (.bool true)], args := [d1, d2] }
  | _ => none }
def reqOneRow : OpenClaim := { program := "ytnmokjgnbcfabaa", sum := "bdcfc284bd73341cd09a7a732664a9701d8629b62e4f5f917c23811e3c6fee97", func := "bracken/brackenkeep.ReqOne", spec := "reqOne", unfollowed := true, recurses := true, apart := false }
def ReqOneSaid : Prop := reqOneRow.holds Try.pinned (OpenSpec.ofChange reqOneSpec)

/-- ITS FALSE NEIGHBOUR: 'it returns false'. Refute it at one input. -/
def reqOneWrong : ChangeSpec := { name := "reqOne", fn := fun _ => fun
  | [d1, d2] => { results := [.lit (.bool false)], args := [d1, d2] }
  | _ => none }
def ReqOneWrongFalsely : Prop := reqOneRow.holds Try.pinned (OpenSpec.ofChange reqOneWrong)

/-- 'brackenkeep.ReqExtra': WHATEVER THE INPUT: true; the input reads as it did. -/
def reqExtraSpec : ChangeSpec := { name := "reqExtra", fn := fun _ => fun
  | [d1, d2] => { results := [.lit (.bool true)], args := [d1, d2] }
  | _ => none }
def reqExtraRow : OpenClaim := { program := "ytnmokjgnbcfabaa", sum := "bdcfc284bd73341cd09a7a732664a9701d8629b62e4f5f917c23811e3c6fee97", func := "bracken/brackenkeep.ReqExtra", spec := "reqExtra", unfollowed := true, recurses := true, apart := false }
def ReqExtraSaid : Prop := reqExtraRow.holds Try.pinned (OpenSpec.ofChange reqExtraSpec)

/-- ITS FALSE NEIGHBOUR: 'it returns false'. Refute it at one input. -/
def reqExtraWrong : ChangeSpec := { name := "reqExtra", fn := fun _ => fun
  | [d1, d2] => { results := [.lit (.bool false)], args := [d1, d2] }
  | _ => none }
def ReqExtraWrongFalsely : Prop := reqExtraRow.holds Try.pinned (OpenSpec.ofChange reqExtraWrong)

/-- 'brackenkeep.ReqKinds': WHATEVER THE INPUT: true; the input reads as it did. -/
def reqKindsSpec : ChangeSpec := { name := "reqKinds", fn := fun _ => fun
  | [d] => { results := [.lit (.bool true)], args := [d] }
  | _ => none }
def reqKindsRow : OpenClaim := { program := "ytnmokjgnbcfabaa", sum := "bdcfc284bd73341cd09a7a732664a9701d8629b62e4f5f917c23811e3c6fee97", func := "bracken/brackenkeep.ReqKinds", spec := "reqKinds", unfollowed := true, recurses := true, apart := false }
def ReqKindsSaid : Prop := reqKindsRow.holds Try.pinned (OpenSpec.ofChange reqKindsSpec)

/-- ITS FALSE NEIGHBOUR: 'it returns false'. Refute it at one input. -/
def reqKindsWrong : ChangeSpec := { name := "reqKinds", fn := fun _ => fun
  | [d] => { results := [.lit (.bool false)], args := [d] }
  | _ => none }
def ReqKindsWrongFalsely : Prop := reqKindsRow.holds Try.pinned (OpenSpec.ofChange reqKindsWrong)

/-- 'brackenkeep.ReqReply': WHATEVER THE INPUT: true; the input reads as it did. -/
def reqReplySpec : ChangeSpec := { name := "reqReply", fn := fun _ => fun
  | [d1, d2] => { results := [.lit (.bool true)], args := [d1, d2] }
  | _ => none }
def reqReplyRow : OpenClaim := { program := "ytnmokjgnbcfabaa", sum := "bdcfc284bd73341cd09a7a732664a9701d8629b62e4f5f917c23811e3c6fee97", func := "bracken/brackenkeep.ReqReply", spec := "reqReply", unfollowed := true, recurses := true, apart := false }
def ReqReplySaid : Prop := reqReplyRow.holds Try.pinned (OpenSpec.ofChange reqReplySpec)

/-- ITS FALSE NEIGHBOUR: 'it returns false'. Refute it at one input. -/
def reqReplyWrong : ChangeSpec := { name := "reqReply", fn := fun _ => fun
  | [d1, d2] => { results := [.lit (.bool false)], args := [d1, d2] }
  | _ => none }
def ReqReplyWrongFalsely : Prop := reqReplyRow.holds Try.pinned (OpenSpec.ofChange reqReplyWrong)

/- THE SECOND FORM. 'bulk': how many values and letters a reading holds, each counted each time it is reached (what is shared counts as often as it is met; a slice's spare places count too). A statement '..UptoSaid' is the law's where the arguments, and the package variables that the reading takes, are together of bulk at most 1048576: NARROWER than '..Said'. Prove '..Said' where nothing that the law and all that it calls make is longer than what came in: it says more and counts as full. Else prove '..UptoSaid'. A law counts once. -/
mutual
def uptoBulk {H : Type} : DataW H → Nat
  | .lit (.string bytes) => bytes.length + 1
  | .lit _ => 1
  | .nil => 1
  | .ptr d => uptoBulk d + 1
  | .slice elems spare => uptoBulkAll elems + uptoBulkAll spare + 1
  | .agg parts => uptoBulkAll parts + 1
  | .iface _ d => uptoBulk d + 1
  | .map entries => uptoBulkEntries entries + 1
  | .held _ => 1
def uptoBulkAll {H : Type} : List (DataW H) → Nat
  | [] => 0
  | d :: r => uptoBulk d + uptoBulkAll r
def uptoBulkEntries {H : Type} : List (Lit × DataW H) → Nat
  | [] => 0
  | x :: r => uptoBulkEntry x + uptoBulkEntries r
def uptoBulkEntry {H : Type} : Lit × DataW H → Nat
  | (.string bytes, d) => bytes.length + uptoBulk d + 1
  | (_, d) => uptoBulk d + 1
 end
def uptoSmall : (H : Type) → List (DataW H) → Bool := fun _ ds => decide (uptoBulkAll ds ≤ 1048576)
def OpenSpec.upto (s : _root_.Go.ChangeSpec) : _root_.Go.OpenSpec := { _root_.Go.OpenSpec.ofChange s with cond := some uptoSmall }

/-- 'brackenkeep.ReqBack', WHERE WHAT IT READS IS OF BULK AT MOST 1048576: true; the input reads as it did. -/
def reqBackUptoRow : OpenClaim := { program := "ytnmokjgnbcfabaa", sum := "bdcfc284bd73341cd09a7a732664a9701d8629b62e4f5f917c23811e3c6fee97", func := "bracken/brackenkeep.ReqBack", spec := "reqBack", unfollowed := true, recurses := true, apart := false, narrowed := true }
def ReqBackUptoSaid : Prop := reqBackUptoRow.holds Try.pinned (OpenSpec.upto reqBackSpec)

/-- 'brackenkeep.ReqOne', WHERE WHAT IT READS IS OF BULK AT MOST 1048576: true; the input reads as it did. -/
def reqOneUptoRow : OpenClaim := { program := "ytnmokjgnbcfabaa", sum := "bdcfc284bd73341cd09a7a732664a9701d8629b62e4f5f917c23811e3c6fee97", func := "bracken/brackenkeep.ReqOne", spec := "reqOne", unfollowed := true, recurses := true, apart := false, narrowed := true }
def ReqOneUptoSaid : Prop := reqOneUptoRow.holds Try.pinned (OpenSpec.upto reqOneSpec)

/-- 'brackenkeep.ReqExtra', WHERE WHAT IT READS IS OF BULK AT MOST 1048576: true; the input reads as it did. -/
def reqExtraUptoRow : OpenClaim := { program := "ytnmokjgnbcfabaa", sum := "bdcfc284bd73341cd09a7a732664a9701d8629b62e4f5f917c23811e3c6fee97", func := "bracken/brackenkeep.ReqExtra", spec := "reqExtra", unfollowed := true, recurses := true, apart := false, narrowed := true }
def ReqExtraUptoSaid : Prop := reqExtraUptoRow.holds Try.pinned (OpenSpec.upto reqExtraSpec)

/-- 'brackenkeep.ReqKinds', WHERE WHAT IT READS IS OF BULK AT MOST 1048576: true; the input reads as it did. -/
def reqKindsUptoRow : OpenClaim := { program := "ytnmokjgnbcfabaa", sum := "bdcfc284bd73341cd09a7a732664a9701d8629b62e4f5f917c23811e3c6fee97", func := "bracken/brackenkeep.ReqKinds", spec := "reqKinds", unfollowed := true, recurses := true, apart := false, narrowed := true }
def ReqKindsUptoSaid : Prop := reqKindsUptoRow.holds Try.pinned (OpenSpec.upto reqKindsSpec)

/-- 'brackenkeep.ReqReply', WHERE WHAT IT READS IS OF BULK AT MOST 1048576: true; the input reads as it did. -/
def reqReplyUptoRow : OpenClaim := { program := "ytnmokjgnbcfabaa", sum := "bdcfc284bd73341cd09a7a732664a9701d8629b62e4f5f917c23811e3c6fee97", func := "bracken/brackenkeep.ReqReply", spec := "reqReply", unfollowed := true, recurses := true, apart := false, narrowed := true }
def ReqReplyUptoSaid : Prop := reqReplyUptoRow.holds Try.pinned (OpenSpec.upto reqReplySpec)

end Rows
end Go.Proofs.Ytnmokjgnbcfabaa
