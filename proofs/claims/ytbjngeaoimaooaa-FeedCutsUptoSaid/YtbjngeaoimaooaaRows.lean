/-
  No cell of these rows narrows 'for every input' (looked for: loops, veiled, ifaces, maps, wideKeys, modest, calm, conditions, laid).
  DERIVED. THE GIVEN ROWS OF THIS SEAT. 4 by the template 'for every input the law returns true; each argument reads behind the call as it read before'; 0 by the template 'total and deterministic' (their statements: YtbjngeaoimaooaaTotals.lean).
  GIVEN WITH THE SEED: the statements are not yours to turn. If you find one false, say at which input.
  Laid BY PROGRAM, IN A SANDBOX (cutbox-rows.mjs): the forced cells as the released guide's own fill.sh prints them over the translation 167f58ec230b60ce… (all of the seat's roots in one cut). By AI agents, Wed Nov 11 2026. No macro, syntax, notation, axiom, sorry.
-/
import Derived.Test.YtbjngeaoimaooaaChecked
import GoSem.Claim
import GoSem.ClaimJoined
import GoSem.ClaimMapViews
import Derived.JoinedTies
import Derived.KernelRfl
namespace Go.Proofs.Ytbjngeaoimaooaa
/- THE CELL 'sum', in the pinned program and in every row, IS THE sha256 OF THE DUMP (.gsa) THAT YtbjngeaoimaooaaProg.lean LOADS. Nothing in Lean hashes anything: it is a label: what it is worth is what the hold of that sum in a sandbox is worth. -/
noncomputable def Try.pinned : Pinned := { name := "ytbjngeaoimaooaa", sum := "167f58ec230b60ce9ab17f62e29148af5332ce05e557788c18ad2954104ad6e7", checked := Try.checked }
namespace Rows
def none {H : Type} : Left H := { results := [], args := [] }

/-- 'brackenkeep.FeedCuts': WHATEVER THE INPUT: true; the input reads as it did. -/
def feedCutsSpec : ChangeSpec := { name := "feedCuts", fn := fun _ => fun
  | [d1, d2] => { results := [.lit (.bool true)], args := [d1, d2] }
  | _ => none }
def feedCutsRow : OpenClaim := { program := "ytbjngeaoimaooaa", sum := "167f58ec230b60ce9ab17f62e29148af5332ce05e557788c18ad2954104ad6e7", func := "bracken/brackenkeep.FeedCuts", spec := "feedCuts", unfollowed := true, recurses := true, apart := false }
def FeedCutsSaid : Prop := feedCutsRow.holds Try.pinned (OpenSpec.ofChange feedCutsSpec)

/-- ITS FALSE NEIGHBOUR: 'it returns false'. Refute it at one input. -/
def feedCutsWrong : ChangeSpec := { name := "feedCuts", fn := fun _ => fun
  | [d1, d2] => { results := [.lit (.bool false)], args := [d1, d2] }
  | _ => none }
def FeedCutsWrongFalsely : Prop := feedCutsRow.holds Try.pinned (OpenSpec.ofChange feedCutsWrong)

/-- 'brackenkeep.FeedAll': WHATEVER THE INPUT: true; the input reads as it did. -/
def feedAllSpec : ChangeSpec := { name := "feedAll", fn := fun _ => fun
  | [d] => { results := [.lit (.bool true)], args := [d] }
  | _ => none }
def feedAllRow : OpenClaim := { program := "ytbjngeaoimaooaa", sum := "167f58ec230b60ce9ab17f62e29148af5332ce05e557788c18ad2954104ad6e7", func := "bracken/brackenkeep.FeedAll", spec := "feedAll", unfollowed := true, recurses := true, apart := false }
def FeedAllSaid : Prop := feedAllRow.holds Try.pinned (OpenSpec.ofChange feedAllSpec)

/-- ITS FALSE NEIGHBOUR: 'it returns false'. Refute it at one input. -/
def feedAllWrong : ChangeSpec := { name := "feedAll", fn := fun _ => fun
  | [d] => { results := [.lit (.bool false)], args := [d] }
  | _ => none }
def FeedAllWrongFalsely : Prop := feedAllRow.holds Try.pinned (OpenSpec.ofChange feedAllWrong)

/-- 'brackenkeep.FeedPrefix': WHATEVER THE INPUT: true; the input reads as it did. -/
def feedPrefixSpec : ChangeSpec := { name := "feedPrefix", fn := fun _ => fun
  | [d] => { results := [.lit (.bool true)], args := [d] }
  | _ => none }
def feedPrefixRow : OpenClaim := { program := "ytbjngeaoimaooaa", sum := "167f58ec230b60ce9ab17f62e29148af5332ce05e557788c18ad2954104ad6e7", func := "bracken/brackenkeep.FeedPrefix", spec := "feedPrefix", unfollowed := true, recurses := true, apart := false }
def FeedPrefixSaid : Prop := feedPrefixRow.holds Try.pinned (OpenSpec.ofChange feedPrefixSpec)

/-- ITS FALSE NEIGHBOUR: 'it returns false'. Refute it at one input. -/
def feedPrefixWrong : ChangeSpec := { name := "feedPrefix", fn := fun _ => fun
  | [d] => { results := [.lit (.bool false)], args := [d] }
  | _ => none }
def FeedPrefixWrongFalsely : Prop := feedPrefixRow.holds Try.pinned (OpenSpec.ofChange feedPrefixWrong)

/-- 'brackenkeep.FeedStuck': WHATEVER THE INPUT: true; the input reads as it did. -/
def feedStuckSpec : ChangeSpec := { name := "feedStuck", fn := fun _ => fun
  | [d1, d2] => { results := [.lit (.bool true)], args := [d1, d2] }
  | _ => none }
def feedStuckRow : OpenClaim := { program := "ytbjngeaoimaooaa", sum := "167f58ec230b60ce9ab17f62e29148af5332ce05e557788c18ad2954104ad6e7", func := "bracken/brackenkeep.FeedStuck", spec := "feedStuck", unfollowed := true, recurses := true, apart := false }
def FeedStuckSaid : Prop := feedStuckRow.holds Try.pinned (OpenSpec.ofChange feedStuckSpec)

/-- ITS FALSE NEIGHBOUR: 'it returns false'. Refute it at one input. -/
def feedStuckWrong : ChangeSpec := { name := "feedStuck", fn := fun _ => fun
  | [d1, d2] => { results := [.lit (.bool false)], args := [d1, d2] }
  | _ => none }
def FeedStuckWrongFalsely : Prop := feedStuckRow.holds Try.pinned (OpenSpec.ofChange feedStuckWrong)

/- THE SECOND FORM. 'bulk': how many values and letters a reading holds, each counted each time it is reached (what is shared counts as often as it is met; a slice's spare places count too). A statement '..UptoSaid' is the law's where the arguments, and the package variables that the reading takes, are together of bulk at most 1048576: NARROWER than '..Said'. Prove '..Said' where nothing that the law and all that it calls make is longer than what came in: it says more and counts as full. Else prove '..UptoSaid'. A law counts once. -/
mutual
def uptoBulk {H : Type} : DataW H → Nat
  | .lit (.string bytes) => bytes.length + 1
  | .lit _ => 1
  | .nil => 1
  | .ptr d => uptoBulk d + 1
  | .slice elems spare => uptoBulkAll elems + uptoBulkAll spare + 1
  | .agg parts => uptoBulkAll parts + 1
  | .iface _ d => uptoBulk d + 1
  | .map entries => uptoBulkEntries entries + 1
  | .held _ => 1
def uptoBulkAll {H : Type} : List (DataW H) → Nat
  | [] => 0
  | d :: r => uptoBulk d + uptoBulkAll r
def uptoBulkEntries {H : Type} : List (Lit × DataW H) → Nat
  | [] => 0
  | x :: r => uptoBulkEntry x + uptoBulkEntries r
def uptoBulkEntry {H : Type} : Lit × DataW H → Nat
  | (.string bytes, d) => bytes.length + uptoBulk d + 1
  | (_, d) => uptoBulk d + 1
 end
def uptoSmall : (H : Type) → List (DataW H) → Bool := fun _ ds => decide (uptoBulkAll ds ≤ 1048576)
def OpenSpec.upto (s : _root_.Go.ChangeSpec) : _root_.Go.OpenSpec := { _root_.Go.OpenSpec.ofChange s with cond := some uptoSmall }

/-- 'brackenkeep.FeedCuts', WHERE WHAT IT READS IS OF BULK AT MOST 1048576: true; the input reads as it did. -/
def feedCutsUptoRow : OpenClaim := { program := "ytbjngeaoimaooaa", sum := "167f58ec230b60ce9ab17f62e29148af5332ce05e557788c18ad2954104ad6e7", func := "bracken/brackenkeep.FeedCuts", spec := "feedCuts", unfollowed := true, recurses := true, apart := false, narrowed := true }
def FeedCutsUptoSaid : Prop := feedCutsUptoRow.holds Try.pinned (OpenSpec.upto feedCutsSpec)

/-- 'brackenkeep.FeedAll', WHERE WHAT IT READS IS OF BULK AT MOST 1048576: true; the input reads as it did. -/
def feedAllUptoRow : OpenClaim := { program := "ytbjngeaoimaooaa", sum := "167f58ec230b60ce9ab17f62e29148af5332ce05e557788c18ad2954104ad6e7", func := "bracken/brackenkeep.FeedAll", spec := "feedAll", unfollowed := true, recurses := true, apart := false, narrowed := true }
def FeedAllUptoSaid : Prop := feedAllUptoRow.holds Try.pinned (OpenSpec.upto feedAllSpec)

/-- 'brackenkeep.FeedPrefix', WHERE WHAT IT READS IS OF BULK AT MOST 1048576: true; the input reads as it did. -/
def feedPrefixUptoRow : OpenClaim := { program := "ytbjngeaoimaooaa", sum := "167f58ec230b60ce9ab17f62e29148af5332ce05e557788c18ad2954104ad6e7", func := "bracken/brackenkeep.FeedPrefix", spec := "feedPrefix", unfollowed := true, recurses := true, apart := false, narrowed := true }
def FeedPrefixUptoSaid : Prop := feedPrefixUptoRow.holds Try.pinned (OpenSpec.upto feedPrefixSpec)

/-- 'brackenkeep.FeedStuck', WHERE WHAT IT READS IS OF BULK AT MOST 1048576: true; the input reads as it did. -/
def feedStuckUptoRow : OpenClaim := { program := "ytbjngeaoimaooaa", sum := "167f58ec230b60ce9ab17f62e29148af5332ce05e557788c18ad2954104ad6e7", func := "bracken/brackenkeep.FeedStuck", spec := "feedStuck", unfollowed := true, recurses := true, apart := false, narrowed := true }
def FeedStuckUptoSaid : Prop := feedStuckUptoRow.holds Try.pinned (OpenSpec.upto feedStuckSpec)

end Rows
end Go.Proofs.Ytbjngeaoimaooaa
