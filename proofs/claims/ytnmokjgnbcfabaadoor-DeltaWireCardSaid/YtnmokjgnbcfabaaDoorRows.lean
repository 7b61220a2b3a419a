/-
  NARROWER THAN 'FOR EVERY INPUT', by the rows' own cells (each row's printed sentence says how): StateLess: laid · StateMore: laid · StateRooms: laid · DeltaLeast: laid · DeltaNone: laid · DeltaWire: laid · DeltaCut: laid.
  DERIVED. THE GIVEN ROWS OF THIS SEAT. 7 by the template 'for every input the law returns true; each argument reads behind the call as it read before'; 0 by the template 'total and deterministic' (their statements: YtnmokjgnbcfabaaDoorTotals.lean).
  GIVEN WITH THE SEED: the statements are not yours to turn. If you find one false, say at which input.
  Laid BY PROGRAM, IN A SANDBOX (cutbox-rows.mjs): the forced cells as the released guide's own fill.sh prints them over the translation cd3649b3ec7638c3… (all of the seat's roots in one cut). By AI agents, Wed Nov 11 2026. No macro, syntax, notation, axiom, sorry.
-/
import Derived.Test.YtnmokjgnbcfabaaDoorChecked
import GoSem.PinnedTables
import GoSem.Claim
import GoSem.ClaimJoined
import GoSem.ClaimMapViews
import Derived.JoinedTies
import Derived.KernelRfl
namespace Go.Proofs.YtnmokjgnbcfabaaDoor
/- THE CELL 'sum', in the pinned program and in every row, IS THE sha256 OF THE DUMP (.gsa) THAT YtnmokjgnbcfabaaDoorProg.lean LOADS. Nothing in Lean hashes anything: it is a label: what it is worth is what the hold of that sum in a sandbox is worth. -/
noncomputable def Tryd.pinned : Pinned := { name := "ytnmokjgnbcfabaadoor", sum := "cd3649b3ec7638c312b3b29734349974893a4d557ebb1e7fefa2e88b124cccfa", checked := Tryd.checked }
namespace Rows
def none {H : Type} : Left H := { results := [], args := [] }

/- WHAT THE LISTED PACKAGE-LEVEL VARIABLES READ AS WHEN THE CALL BEGINS. Each datum BY PROGRAM (the guide's laid-datum.mjs) off the statement by which the dump's own 'gosem.cut.vars' lays the variable. In a bare row this is a premise. The card (YtnmokjgnbcfabaaDoorCards.lean) ties it to the program's text. -/
def laid_unicode_utf8_acceptRanges {H : Type} : DataW H := .agg [.agg [.lit (.int .u8 128), .lit (.int .u8 191)], .agg [.lit (.int .u8 160), .lit (.int .u8 191)], .agg [.lit (.int .u8 128), .lit (.int .u8 159)], .agg [.lit (.int .u8 144), .lit (.int .u8 191)], .agg [.lit (.int .u8 128), .lit (.int .u8 143)], .agg [.lit (.int .u8 0), .lit (.int .u8 0)], .agg [.lit (.int .u8 0), .lit (.int .u8 0)], .agg [.lit (.int .u8 0), .lit (.int .u8 0)], .agg [.lit (.int .u8 0), .lit (.int .u8 0)], .agg [.lit (.int .u8 0), .lit (.int .u8 0)], .agg [.lit (.int .u8 0), .lit (.int .u8 0)], .agg [.lit (.int .u8 0), .lit (.int .u8 0)], .agg [.lit (.int .u8 0), .lit (.int .u8 0)], .agg [.lit (.int .u8 0), .lit (.int .u8 0)], .agg [.lit (.int .u8 0), .lit (.int .u8 0)], .agg [.lit (.int .u8 0), .lit (.int .u8 0)]]
/-- One of Go's own tables, pinned by name: the form's constant. -/
def laid_unicode_utf8_first : DataW Unit := Go.Pinned.utf8First

/-- 'brackenkeep.StateLess': WHATEVER THE INPUT: true; the input reads as it did. -/
def stateLessSpec : ChangeSpec := { name := "stateLess", fn := fun _ => fun
  | [d1, d2] => { results := [.lit (.bool true)], args := [d1, d2] }
  | _ => none }
def stateLessRow : OpenClaim := { program := "ytnmokjgnbcfabaadoor", sum := "cd3649b3ec7638c312b3b29734349974893a4d557ebb1e7fefa2e88b124cccfa", func := "bracken/brackenkeep.StateLess", spec := "stateLess", unfollowed := true, recurses := true, named := ["unicode/utf8.first", "unicode/utf8.acceptRanges"], apart := false, laid := [("unicode/utf8.acceptRanges", laid_unicode_utf8_acceptRanges), ("unicode/utf8.first", laid_unicode_utf8_first)] }
def StateLessSaid : Prop := stateLessRow.holds Tryd.pinned (OpenSpec.ofChange stateLessSpec)

/-- ITS FALSE NEIGHBOUR: 'it returns false'. Refute it at one input. -/
def stateLessWrong : ChangeSpec := { name := "stateLess", fn := fun _ => fun
  | [d1, d2] => { results := [.lit (.bool false)], args := [d1, d2] }
  | _ => none }
def StateLessWrongFalsely : Prop := stateLessRow.holds Tryd.pinned (OpenSpec.ofChange stateLessWrong)

/-- 'brackenkeep.StateMore': WHATEVER THE INPUT: true; the input reads as it did. -/
def stateMoreSpec : ChangeSpec := { name := "stateMore", fn := fun _ => fun
  | [d1, d2] => { results := [.lit (.bool true)], args := [d1, d2] }
  | _ => none }
def stateMoreRow : OpenClaim := { program := "ytnmokjgnbcfabaadoor", sum := "cd3649b3ec7638c312b3b29734349974893a4d557ebb1e7fefa2e88b124cccfa", func := "bracken/brackenkeep.StateMore", spec := "stateMore", unfollowed := true, recurses := true, named := ["unicode/utf8.first", "unicode/utf8.acceptRanges"], apart := false, laid := [("unicode/utf8.acceptRanges", laid_unicode_utf8_acceptRanges), ("unicode/utf8.first", laid_unicode_utf8_first)] }
def StateMoreSaid : Prop := stateMoreRow.holds Tryd.pinned (OpenSpec.ofChange stateMoreSpec)

/-- ITS FALSE NEIGHBOUR: 'it returns false'. Refute it at one input. -/
def stateMoreWrong : ChangeSpec := { name := "stateMore", fn := fun _ => fun
  | [d1, d2] => { results := [.lit (.bool false)], args := [d1, d2] }
  | _ => none }
def StateMoreWrongFalsely : Prop := stateMoreRow.holds Tryd.pinned (OpenSpec.ofChange stateMoreWrong)

/-- 'brackenkeep.StateRooms': WHATEVER THE INPUT: true; the input reads as it did. -/
def stateRoomsSpec : ChangeSpec := { name := "stateRooms", fn := fun _ => fun
  | [d1, d2, d3] => { results := [.lit (.bool true)], args := [d1, d2, d3] }
  | _ => none }
def stateRoomsRow : OpenClaim := { program := "ytnmokjgnbcfabaadoor", sum := "cd3649b3ec7638c312b3b29734349974893a4d557ebb1e7fefa2e88b124cccfa", func := "bracken/brackenkeep.StateRooms", spec := "stateRooms", unfollowed := true, recurses := true, named := ["unicode/utf8.first", "unicode/utf8.acceptRanges"], apart := false, laid := [("unicode/utf8.acceptRanges", laid_unicode_utf8_acceptRanges), ("unicode/utf8.first", laid_unicode_utf8_first)] }
def StateRoomsSaid : Prop := stateRoomsRow.holds Tryd.pinned (OpenSpec.ofChange stateRoomsSpec)

/-- ITS FALSE NEIGHBOUR: 'it returns false'. Refute it at one input. -/
def stateRoomsWrong : ChangeSpec := { name := "stateRooms", fn := fun _ => fun
  | [d1, d2, d3] => { results := [.lit (.bool false)], args := [d1, d2, d3] }
  | _ => none }
def StateRoomsWrongFalsely : Prop := stateRoomsRow.holds Tryd.pinned (OpenSpec.ofChange stateRoomsWrong)

/-- 'brackenkeep.DeltaLeast': WHATEVER THE INPUT: true; the input reads as it did. -/
def deltaLeastSpec : ChangeSpec := { name := "deltaLeast", fn := fun _ => fun
  | [d1, d2] => { results := [.lit (.bool true)], args := [d1, d2] }
  | _ => none }
def deltaLeastRow : OpenClaim := { program := "ytnmokjgnbcfabaadoor", sum := "cd3649b3ec7638c312b3b29734349974893a4d557ebb1e7fefa2e88b124cccfa", func := "bracken/brackenkeep.DeltaLeast", spec := "deltaLeast", unfollowed := true, recurses := true, named := ["unicode/utf8.first", "unicode/utf8.acceptRanges"], apart := false, laid := [("unicode/utf8.acceptRanges", laid_unicode_utf8_acceptRanges), ("unicode/utf8.first", laid_unicode_utf8_first)] }
def DeltaLeastSaid : Prop := deltaLeastRow.holds Tryd.pinned (OpenSpec.ofChange deltaLeastSpec)

/-- ITS FALSE NEIGHBOUR: 'it returns false'. Refute it at one input. -/
def deltaLeastWrong : ChangeSpec := { name := "deltaLeast", fn := fun _ => fun
  | [d1, d2] => { results := [.lit (.bool false)], args := [d1, d2] }
  | _ => none }
def DeltaLeastWrongFalsely : Prop := deltaLeastRow.holds Tryd.pinned (OpenSpec.ofChange deltaLeastWrong)

/-- 'brackenkeep.DeltaNone': WHATEVER THE INPUT: true; the input reads as it did. -/
def deltaNoneSpec : ChangeSpec := { name := "deltaNone", fn := fun _ => fun
  | [d1, d2] => { results := [.lit (.bool true)], args := [d1, d2] }
  | _ => none }
def deltaNoneRow : OpenClaim := { program := "ytnmokjgnbcfabaadoor", sum := "cd3649b3ec7638c312b3b29734349974893a4d557ebb1e7fefa2e88b124cccfa", func := "bracken/brackenkeep.DeltaNone", spec := "deltaNone", unfollowed := true, recurses := true, named := ["unicode/utf8.first", "unicode/utf8.acceptRanges"], apart := false, laid := [("unicode/utf8.acceptRanges", laid_unicode_utf8_acceptRanges), ("unicode/utf8.first", laid_unicode_utf8_first)] }
def DeltaNoneSaid : Prop := deltaNoneRow.holds Tryd.pinned (OpenSpec.ofChange deltaNoneSpec)

/-- ITS FALSE NEIGHBOUR: 'it returns false'. Refute it at one input. -/
def deltaNoneWrong : ChangeSpec := { name := "deltaNone", fn := fun _ => fun
  | [d1, d2] => { results := [.lit (.bool false)], args := [d1, d2] }
  | _ => none }
def DeltaNoneWrongFalsely : Prop := deltaNoneRow.holds Tryd.pinned (OpenSpec.ofChange deltaNoneWrong)

/-- 'brackenkeep.DeltaWire': WHATEVER THE INPUT: true; the input reads as it did. -/
def deltaWireSpec : ChangeSpec := { name := "deltaWire", fn := fun _ => fun
  | [d1, d2] => { results := [.lit (.bool true)], args := [d1, d2] }
  | _ => none }
def deltaWireRow : OpenClaim := { program := "ytnmokjgnbcfabaadoor", sum := "cd3649b3ec7638c312b3b29734349974893a4d557ebb1e7fefa2e88b124cccfa", func := "bracken/brackenkeep.DeltaWire", spec := "deltaWire", unfollowed := true, recurses := true, named := ["unicode/utf8.first", "unicode/utf8.acceptRanges"], apart := false, laid := [("unicode/utf8.acceptRanges", laid_unicode_utf8_acceptRanges), ("unicode/utf8.first", laid_unicode_utf8_first)] }
def DeltaWireSaid : Prop := deltaWireRow.holds Tryd.pinned (OpenSpec.ofChange deltaWireSpec)

/-- ITS FALSE NEIGHBOUR: 'it returns false'. Refute it at one input. -/
def deltaWireWrong : ChangeSpec := { name := "deltaWire", fn := fun _ => fun
  | [d1, d2] => { results := [.lit (.bool false)], args := [d1, d2] }
  | _ => none }
def DeltaWireWrongFalsely : Prop := deltaWireRow.holds Tryd.pinned (OpenSpec.ofChange deltaWireWrong)

/-- 'brackenkeep.DeltaCut': WHATEVER THE INPUT: true; the input reads as it did. -/
def deltaCutSpec : ChangeSpec := { name := "deltaCut", fn := fun _ => fun
  | [d1, d2, d3] => { results := [.lit (.bool true)], args := [d1, d2, d3] }
  | _ => none }
def deltaCutRow : OpenClaim := { program := "ytnmokjgnbcfabaadoor", sum := "cd3649b3ec7638c312b3b29734349974893a4d557ebb1e7fefa2e88b124cccfa", func := "bracken/brackenkeep.DeltaCut", spec := "deltaCut", unfollowed := true, recurses := true, named := ["unicode/utf8.first", "unicode/utf8.acceptRanges"], apart := false, laid := [("unicode/utf8.acceptRanges", laid_unicode_utf8_acceptRanges), ("unicode/utf8.first", laid_unicode_utf8_first)] }
def DeltaCutSaid : Prop := deltaCutRow.holds Tryd.pinned (OpenSpec.ofChange deltaCutSpec)

/-- ITS FALSE NEIGHBOUR: 'it returns false'. Refute it at one input. -/
def deltaCutWrong : ChangeSpec := { name := "deltaCut", fn := fun _ => fun
  | [d1, d2, d3] => { results := [.lit (.bool false)], args := [d1, d2, d3] }
  | _ => none }
def DeltaCutWrongFalsely : Prop := deltaCutRow.holds Tryd.pinned (OpenSpec.ofChange deltaCutWrong)

/- THE SECOND FORM. 'bulk': how many values and letters a reading holds, each counted each time it is reached (what is shared counts as often as it is met; a slice's spare places count too). A statement '..UptoSaid' is the law's where the arguments, and the package variables that the reading takes, are together of bulk at most 1048576: NARROWER than '..Said'. Prove '..Said' where nothing that the law and all that it calls make is longer than what came in: it says more and counts as full. Else prove '..UptoSaid'. A law counts once. -/
mutual
def uptoBulk {H : Type} : DataW H → Nat
  | .lit (.string bytes) => bytes.length + 1
  | .lit _ => 1
  | .nil => 1
  | .ptr d => uptoBulk d + 1
  | .slice elems spare => uptoBulkAll elems + uptoBulkAll spare + 1
  | .agg parts => uptoBulkAll parts + 1
  | .iface _ d => uptoBulk d + 1
  | .map entries => uptoBulkEntries entries + 1
  | .held _ => 1
def uptoBulkAll {H : Type} : List (DataW H) → Nat
  | [] => 0
  | d :: r => uptoBulk d + uptoBulkAll r
def uptoBulkEntries {H : Type} : List (Lit × DataW H) → Nat
  | [] => 0
  | x :: r => uptoBulkEntry x + uptoBulkEntries r
def uptoBulkEntry {H : Type} : Lit × DataW H → Nat
  | (.string bytes, d) => bytes.length + uptoBulk d + 1
  | (_, d) => uptoBulk d + 1
 end
def uptoSmall : (H : Type) → List (DataW H) → Bool := fun _ ds => decide (uptoBulkAll ds ≤ 1048576)
def OpenSpec.upto (s : _root_.Go.ChangeSpec) : _root_.Go.OpenSpec := { _root_.Go.OpenSpec.ofChange s with cond := some uptoSmall }

/-- 'brackenkeep.StateLess', WHERE WHAT IT READS IS OF BULK AT MOST 1048576: true; the input reads as it did. -/
def stateLessUptoRow : OpenClaim := { program := "ytnmokjgnbcfabaadoor", sum := "cd3649b3ec7638c312b3b29734349974893a4d557ebb1e7fefa2e88b124cccfa", func := "bracken/brackenkeep.StateLess", spec := "stateLess", unfollowed := true, recurses := true, named := ["unicode/utf8.first", "unicode/utf8.acceptRanges"], apart := false, laid := [("unicode/utf8.acceptRanges", laid_unicode_utf8_acceptRanges), ("unicode/utf8.first", laid_unicode_utf8_first)], narrowed := true }
def StateLessUptoSaid : Prop := stateLessUptoRow.holds Tryd.pinned (OpenSpec.upto stateLessSpec)

/-- 'brackenkeep.StateMore', WHERE WHAT IT READS IS OF BULK AT MOST 1048576: true; the input reads as it did. -/
def stateMoreUptoRow : OpenClaim := { program := "ytnmokjgnbcfabaadoor", sum := "cd3649b3ec7638c312b3b29734349974893a4d557ebb1e7fefa2e88b124cccfa", func := "bracken/brackenkeep.StateMore", spec := "stateMore", unfollowed := true, recurses := true, named := ["unicode/utf8.first", "unicode/utf8.acceptRanges"], apart := false, laid := [("unicode/utf8.acceptRanges", laid_unicode_utf8_acceptRanges), ("unicode/utf8.first", laid_unicode_utf8_first)], narrowed := true }
def StateMoreUptoSaid : Prop := stateMoreUptoRow.holds Tryd.pinned (OpenSpec.upto stateMoreSpec)

/-- 'brackenkeep.StateRooms', WHERE WHAT IT READS IS OF BULK AT MOST 1048576: true; the input reads as it did. -/
def stateRoomsUptoRow : OpenClaim := { program := "ytnmokjgnbcfabaadoor", sum := "cd3649b3ec7638c312b3b29734349974893a4d557ebb1e7fefa2e88b124cccfa", func := "bracken/brackenkeep.StateRooms", spec := "stateRooms", unfollowed := true, recurses := true, named := ["unicode/utf8.first", "unicode/utf8.acceptRanges"], apart := false, laid := [("unicode/utf8.acceptRanges", laid_unicode_utf8_acceptRanges), ("unicode/utf8.first", laid_unicode_utf8_first)], narrowed := true }
def StateRoomsUptoSaid : Prop := stateRoomsUptoRow.holds Tryd.pinned (OpenSpec.upto stateRoomsSpec)

/-- 'brackenkeep.DeltaLeast', WHERE WHAT IT READS IS OF BULK AT MOST 1048576: true; the input reads as it did. -/
def deltaLeastUptoRow : OpenClaim := { program := "ytnmokjgnbcfabaadoor", sum := "cd3649b3ec7638c312b3b29734349974893a4d557ebb1e7fefa2e88b124cccfa", func := "bracken/brackenkeep.DeltaLeast", spec := "deltaLeast", unfollowed := true, recurses := true, named := ["unicode/utf8.first", "unicode/utf8.acceptRanges"], apart := false, laid := [("unicode/utf8.acceptRanges", laid_unicode_utf8_acceptRanges), ("unicode/utf8.first", laid_unicode_utf8_first)], narrowed := true }
def DeltaLeastUptoSaid : Prop := deltaLeastUptoRow.holds Tryd.pinned (OpenSpec.upto deltaLeastSpec)

/-- 'brackenkeep.DeltaNone', WHERE WHAT IT READS IS OF BULK AT MOST 1048576: true; the input reads as it did. -/
def deltaNoneUptoRow : OpenClaim := { program := "ytnmokjgnbcfabaadoor", sum := "cd3649b3ec7638c312b3b29734349974893a4d557ebb1e7fefa2e88b124cccfa", func := "bracken/brackenkeep.DeltaNone", spec := "deltaNone", unfollowed := true, recurses := true, named := ["unicode/utf8.first", "unicode/utf8.acceptRanges"], apart := false, laid := [("unicode/utf8.acceptRanges", laid_unicode_utf8_acceptRanges), ("unicode/utf8.first", laid_unicode_utf8_first)], narrowed := true }
def DeltaNoneUptoSaid : Prop := deltaNoneUptoRow.holds Tryd.pinned (OpenSpec.upto deltaNoneSpec)

/-- 'brackenkeep.DeltaWire', WHERE WHAT IT READS IS OF BULK AT MOST 1048576: true; the input reads as it did. -/
def deltaWireUptoRow : OpenClaim := { program := "ytnmokjgnbcfabaadoor", sum := "cd3649b3ec7638c312b3b29734349974893a4d557ebb1e7fefa2e88b124cccfa", func := "bracken/brackenkeep.DeltaWire", spec := "deltaWire", unfollowed := true, recurses := true, named := ["unicode/utf8.first", "unicode/utf8.acceptRanges"], apart := false, laid := [("unicode/utf8.acceptRanges", laid_unicode_utf8_acceptRanges), ("unicode/utf8.first", laid_unicode_utf8_first)], narrowed := true }
def DeltaWireUptoSaid : Prop := deltaWireUptoRow.holds Tryd.pinned (OpenSpec.upto deltaWireSpec)

/-- 'brackenkeep.DeltaCut', WHERE WHAT IT READS IS OF BULK AT MOST 1048576: true; the input reads as it did. -/
def deltaCutUptoRow : OpenClaim := { program := "ytnmokjgnbcfabaadoor", sum := "cd3649b3ec7638c312b3b29734349974893a4d557ebb1e7fefa2e88b124cccfa", func := "bracken/brackenkeep.DeltaCut", spec := "deltaCut", unfollowed := true, recurses := true, named := ["unicode/utf8.first", "unicode/utf8.acceptRanges"], apart := false, laid := [("unicode/utf8.acceptRanges", laid_unicode_utf8_acceptRanges), ("unicode/utf8.first", laid_unicode_utf8_first)], narrowed := true }
def DeltaCutUptoSaid : Prop := deltaCutUptoRow.holds Tryd.pinned (OpenSpec.upto deltaCutSpec)

end Rows
end Go.Proofs.YtnmokjgnbcfabaaDoor
