/-
  NARROWER THAN 'FOR EVERY INPUT', by the rows' own cells (each row's printed sentence says how): TextBack: laid · StateLess: laid · StateSums: laid · StateMore: laid · StateRooms: laid · StateFit: laid · UpSteps: laid · UpKeeps: laid.
  DERIVED. THE GIVEN ROWS OF THIS SEAT. 8 by the template 'for every input the law returns true; each argument reads behind the call as it read before'; 0 by the template 'total and deterministic' (their statements: YtbjngeaoimaooaaDoorTotals.lean).
  GIVEN WITH THE SEED: the statements are not yours to turn. If you find one false, say at which input.
  Laid BY PROGRAM, IN A SANDBOX (cutbox-rows.mjs): the forced cells as the released guide's own fill.sh prints them over the translation 371875af01017420… (all of the seat's roots in one cut). By AI agents, Wed Nov 11 2026. No macro, syntax, notation, axiom, sorry.
-/
import Derived.Test.YtbjngeaoimaooaaDoorChecked
import GoSem.PinnedTables
import GoSem.Claim
import GoSem.ClaimJoined
import GoSem.ClaimMapViews
import Derived.JoinedTies
import Derived.KernelRfl
namespace Go.Proofs.YtbjngeaoimaooaaDoor
/- THE CELL 'sum', in the pinned program and in every row, IS THE sha256 OF THE DUMP (.gsa) THAT YtbjngeaoimaooaaDoorProg.lean LOADS. Nothing in Lean hashes anything: it is a label: what it is worth is what the hold of that sum in a sandbox is worth. -/
noncomputable def Tryd.pinned : Pinned := { name := "ytbjngeaoimaooaadoor", sum := "371875af01017420ec152b194e6914056fe2c67219380a57174efac41f70e0fe", checked := Tryd.checked }
namespace Rows
def none {H : Type} : Left H := { results := [], args := [] }

/- WHAT THE LISTED PACKAGE-LEVEL VARIABLES READ AS WHEN THE CALL BEGINS. Each datum BY PROGRAM (the guide's laid-datum.mjs) off the statement by which the dump's own 'gosem.cut.vars' lays the variable. In a bare row this is a premise. The card (YtbjngeaoimaooaaDoorCards.lean) ties it to the program's text. -/
def laid_unicode_utf8_acceptRanges {H : Type} : DataW H := .agg [.agg [.lit (.int .u8 128), .lit (.int .u8 191)], .agg [.lit (.int .u8 160), .lit (.int .u8 191)], .agg [.lit (.int .u8 128), .lit (.int .u8 159)], .agg [.lit (.int .u8 144), .lit (.int .u8 191)], .agg [.lit (.int .u8 128), .lit (.int .u8 143)], .agg [.lit (.int .u8 0), .lit (.int .u8 0)], .agg [.lit (.int .u8 0), .lit (.int .u8 0)], .agg [.lit (.int .u8 0), .lit (.int .u8 0)], .agg [.lit (.int .u8 0), .lit (.int .u8 0)], .agg [.lit (.int .u8 0), .lit (.int .u8 0)], .agg [.lit (.int .u8 0), .lit (.int .u8 0)], .agg [.lit (.int .u8 0), .lit (.int .u8 0)], .agg [.lit (.int .u8 0), .lit (.int .u8 0)], .agg [.lit (.int .u8 0), .lit (.int .u8 0)], .agg [.lit (.int .u8 0), .lit (.int .u8 0)], .agg [.lit (.int .u8 0), .lit (.int .u8 0)]]
/-- One of Go's own tables, pinned by name: the form's constant. -/
def laid_unicode_utf8_first : DataW Unit := Go.Pinned.utf8First

/-- 'brackenkeep.TextBack': WHATEVER THE INPUT: true; the input reads as it did. -/
def textBackSpec : ChangeSpec := { name := "textBack", fn := fun _ => fun
  | [d1, d2] => { results := [.lit (.bool true)], args := [d1, d2] }
  | _ => none }
def textBackRow : OpenClaim := { program := "ytbjngeaoimaooaadoor", sum := "371875af01017420ec152b194e6914056fe2c67219380a57174efac41f70e0fe", func := "bracken/brackenkeep.TextBack", spec := "textBack", named := ["unicode/utf8.first", "unicode/utf8.acceptRanges"], apart := false, laid := [("unicode/utf8.acceptRanges", laid_unicode_utf8_acceptRanges), ("unicode/utf8.first", laid_unicode_utf8_first)] }
def TextBackSaid : Prop := textBackRow.holds Tryd.pinned (OpenSpec.ofChange textBackSpec)

/-- ITS FALSE NEIGHBOUR: 'it returns false'. Refute it at one input. -/
def textBackWrong : ChangeSpec := { name := "textBack", fn := fun _ => fun
  | [d1, d2] => { results := [.lit (.bool false)], args := [d1, d2] }
  | _ => none }
def TextBackWrongFalsely : Prop := textBackRow.holds Tryd.pinned (OpenSpec.ofChange textBackWrong)

/-- 'brackenkeep.StateLess': WHATEVER THE INPUT: true; the input reads as it did. -/
def stateLessSpec : ChangeSpec := { name := "stateLess", fn := fun _ => fun
  | [d1, d2] => { results := [.lit (.bool true)], args := [d1, d2] }
  | _ => none }
def stateLessRow : OpenClaim := { program := "ytbjngeaoimaooaadoor", sum := "371875af01017420ec152b194e6914056fe2c67219380a57174efac41f70e0fe", func := "bracken/brackenkeep.StateLess", spec := "stateLess", unfollowed := true, recurses := true, named := ["unicode/utf8.first", "unicode/utf8.acceptRanges"], apart := false, laid := [("unicode/utf8.acceptRanges", laid_unicode_utf8_acceptRanges), ("unicode/utf8.first", laid_unicode_utf8_first)] }
def StateLessSaid : Prop := stateLessRow.holds Tryd.pinned (OpenSpec.ofChange stateLessSpec)

/-- ITS FALSE NEIGHBOUR: 'it returns false'. Refute it at one input. -/
def stateLessWrong : ChangeSpec := { name := "stateLess", fn := fun _ => fun
  | [d1, d2] => { results := [.lit (.bool false)], args := [d1, d2] }
  | _ => none }
def StateLessWrongFalsely : Prop := stateLessRow.holds Tryd.pinned (OpenSpec.ofChange stateLessWrong)

/-- 'brackenkeep.StateSums': WHATEVER THE INPUT: true; the input reads as it did. -/
def stateSumsSpec : ChangeSpec := { name := "stateSums", fn := fun _ => fun
  | [d] => { results := [.lit (.bool true)], args := [d] }
  | _ => none }
def stateSumsRow : OpenClaim := { program := "ytbjngeaoimaooaadoor", sum := "371875af01017420ec152b194e6914056fe2c67219380a57174efac41f70e0fe", func := "bracken/brackenkeep.StateSums", spec := "stateSums", unfollowed := true, recurses := true, named := ["unicode/utf8.first", "unicode/utf8.acceptRanges"], apart := false, laid := [("unicode/utf8.acceptRanges", laid_unicode_utf8_acceptRanges), ("unicode/utf8.first", laid_unicode_utf8_first)] }
def StateSumsSaid : Prop := stateSumsRow.holds Tryd.pinned (OpenSpec.ofChange stateSumsSpec)

/-- ITS FALSE NEIGHBOUR: 'it returns false'. Refute it at one input. -/
def stateSumsWrong : ChangeSpec := { name := "stateSums", fn := fun _ => fun
  | [d] => { results := [.lit (.bool false)], args := [d] }
  | _ => none }
def StateSumsWrongFalsely : Prop := stateSumsRow.holds Tryd.pinned (OpenSpec.ofChange stateSumsWrong)

/-- 'brackenkeep.StateMore': WHATEVER THE INPUT: true; the input reads as it did. -/
def stateMoreSpec : ChangeSpec := { name := "stateMore", fn := fun _ => fun
  | [d1, d2] => { results := [.lit (.bool true)], args := [d1, d2] }
  | _ => none }
def stateMoreRow : OpenClaim := { program := "ytbjngeaoimaooaadoor", sum := "371875af01017420ec152b194e6914056fe2c67219380a57174efac41f70e0fe", func := "bracken/brackenkeep.StateMore", spec := "stateMore", unfollowed := true, recurses := true, named := ["unicode/utf8.first", "unicode/utf8.acceptRanges"], apart := false, laid := [("unicode/utf8.acceptRanges", laid_unicode_utf8_acceptRanges), ("unicode/utf8.first", laid_unicode_utf8_first)] }
def StateMoreSaid : Prop := stateMoreRow.holds Tryd.pinned (OpenSpec.ofChange stateMoreSpec)

/-- ITS FALSE NEIGHBOUR: 'it returns false'. Refute it at one input. -/
def stateMoreWrong : ChangeSpec := { name := "stateMore", fn := fun _ => fun
  | [d1, d2] => { results := [.lit (.bool false)], args := [d1, d2] }
  | _ => none }
def StateMoreWrongFalsely : Prop := stateMoreRow.holds Tryd.pinned (OpenSpec.ofChange stateMoreWrong)

/-- 'brackenkeep.StateRooms': WHATEVER THE INPUT: true; the input reads as it did. -/
def stateRoomsSpec : ChangeSpec := { name := "stateRooms", fn := fun _ => fun
  | [d1, d2, d3] => { results := [.lit (.bool true)], args := [d1, d2, d3] }
  | _ => none }
def stateRoomsRow : OpenClaim := { program := "ytbjngeaoimaooaadoor", sum := "371875af01017420ec152b194e6914056fe2c67219380a57174efac41f70e0fe", func := "bracken/brackenkeep.StateRooms", spec := "stateRooms", unfollowed := true, recurses := true, named := ["unicode/utf8.first", "unicode/utf8.acceptRanges"], apart := false, laid := [("unicode/utf8.acceptRanges", laid_unicode_utf8_acceptRanges), ("unicode/utf8.first", laid_unicode_utf8_first)] }
def StateRoomsSaid : Prop := stateRoomsRow.holds Tryd.pinned (OpenSpec.ofChange stateRoomsSpec)

/-- ITS FALSE NEIGHBOUR: 'it returns false'. Refute it at one input. -/
def stateRoomsWrong : ChangeSpec := { name := "stateRooms", fn := fun _ => fun
  | [d1, d2, d3] => { results := [.lit (.bool false)], args := [d1, d2, d3] }
  | _ => none }
def StateRoomsWrongFalsely : Prop := stateRoomsRow.holds Tryd.pinned (OpenSpec.ofChange stateRoomsWrong)

/-- 'brackenkeep.StateFit': WHATEVER THE INPUT: true; the input reads as it did. -/
def stateFitSpec : ChangeSpec := { name := "stateFit", fn := fun _ => fun
  | [d] => { results := [.lit (.bool true)], args := [d] }
  | _ => none }
def stateFitRow : OpenClaim := { program := "ytbjngeaoimaooaadoor", sum := "371875af01017420ec152b194e6914056fe2c67219380a57174efac41f70e0fe", func := "bracken/brackenkeep.StateFit", spec := "stateFit", unfollowed := true, recurses := true, named := ["unicode/utf8.first", "unicode/utf8.acceptRanges"], apart := false, laid := [("unicode/utf8.acceptRanges", laid_unicode_utf8_acceptRanges), ("unicode/utf8.first", laid_unicode_utf8_first)] }
def StateFitSaid : Prop := stateFitRow.holds Tryd.pinned (OpenSpec.ofChange stateFitSpec)

/-- ITS FALSE NEIGHBOUR: 'it returns false'. Refute it at one input. -/
def stateFitWrong : ChangeSpec := { name := "stateFit", fn := fun _ => fun
  | [d] => { results := [.lit (.bool false)], args := [d] }
  | _ => none }
def StateFitWrongFalsely : Prop := stateFitRow.holds Tryd.pinned (OpenSpec.ofChange stateFitWrong)

/-- 'brackenkeep.UpSteps': WHATEVER THE INPUT: true; the input reads as it did. -/
def upStepsSpec : ChangeSpec := { name := "upSteps", fn := fun _ => fun
  | [d] => { results := [.lit (.bool true)], args := [d] }
  | _ => none }
def upStepsRow : OpenClaim := { program := "ytbjngeaoimaooaadoor", sum := "371875af01017420ec152b194e6914056fe2c67219380a57174efac41f70e0fe", func := "bracken/brackenkeep.UpSteps", spec := "upSteps", unfollowed := true, recurses := true, named := ["unicode/utf8.first", "unicode/utf8.acceptRanges"], apart := false, laid := [("unicode/utf8.acceptRanges", laid_unicode_utf8_acceptRanges), ("unicode/utf8.first", laid_unicode_utf8_first)] }
def UpStepsSaid : Prop := upStepsRow.holds Tryd.pinned (OpenSpec.ofChange upStepsSpec)

/-- ITS FALSE NEIGHBOUR: 'it returns false'. Refute it at one input. -/
def upStepsWrong : ChangeSpec := { name := "upSteps", fn := fun _ => fun
  | [d] => { results := [.lit (.bool false)], args := [d] }
  | _ => none }
def UpStepsWrongFalsely : Prop := upStepsRow.holds Tryd.pinned (OpenSpec.ofChange upStepsWrong)

/-- 'brackenkeep.UpKeeps': WHATEVER THE INPUT: true; the input reads as it did. -/
def upKeepsSpec : ChangeSpec := { name := "upKeeps", fn := fun _ => fun
  | [d1, d2, d3] => { results := [.lit (.bool true)], args := [d1, d2, d3] }
  | _ => none }
def upKeepsRow : OpenClaim := { program := "ytbjngeaoimaooaadoor", sum := "371875af01017420ec152b194e6914056fe2c67219380a57174efac41f70e0fe", func := "bracken/brackenkeep.UpKeeps", spec := "upKeeps", unfollowed := true, recurses := true, named := ["unicode/utf8.first", "unicode/utf8.acceptRanges"], apart := false, laid := [("unicode/utf8.acceptRanges", laid_unicode_utf8_acceptRanges), ("unicode/utf8.first", laid_unicode_utf8_first)] }
def UpKeepsSaid : Prop := upKeepsRow.holds Tryd.pinned (OpenSpec.ofChange upKeepsSpec)

/-- ITS FALSE NEIGHBOUR: 'it returns false'. Refute it at one input. -/
def upKeepsWrong : ChangeSpec := { name := "upKeeps", fn := fun _ => fun
  | [d1, d2, d3] => { results := [.lit (.bool false)], args := [d1, d2, d3] }
  | _ => none }
def UpKeepsWrongFalsely : Prop := upKeepsRow.holds Tryd.pinned (OpenSpec.ofChange upKeepsWrong)

/- THE SECOND FORM. 'bulk': how many values and letters a reading holds, each counted each time it is reached (what is shared counts as often as it is met; a slice's spare places count too). A statement '..UptoSaid' is the law's where the arguments, and the package variables that the reading takes, are together of bulk at most 1048576: NARROWER than '..Said'. Prove '..Said' where nothing that the law and all that it calls make is longer than what came in: it says more and counts as full. Else prove '..UptoSaid'. A law counts once. -/
mutual
def uptoBulk {H : Type} : DataW H → Nat
  | .lit (.string bytes) => bytes.length + 1
  | .lit _ => 1
  | .nil => 1
  | .ptr d => uptoBulk d + 1
  | .slice elems spare => uptoBulkAll elems + uptoBulkAll spare + 1
  | .agg parts => uptoBulkAll parts + 1
  | .iface _ d => uptoBulk d + 1
  | .map entries => uptoBulkEntries entries + 1
  | .held _ => 1
def uptoBulkAll {H : Type} : List (DataW H) → Nat
  | [] => 0
  | d :: r => uptoBulk d + uptoBulkAll r
def uptoBulkEntries {H : Type} : List (Lit × DataW H) → Nat
  | [] => 0
  | x :: r => uptoBulkEntry x + uptoBulkEntries r
def uptoBulkEntry {H : Type} : Lit × DataW H → Nat
  | (.string bytes, d) => bytes.length + uptoBulk d + 1
  | (_, d) => uptoBulk d + 1
 end
def uptoSmall : (H : Type) → List (DataW H) → Bool := fun _ ds => decide (uptoBulkAll ds ≤ 1048576)
def OpenSpec.upto (s : _root_.Go.ChangeSpec) : _root_.Go.OpenSpec := { _root_.Go.OpenSpec.ofChange s with cond := some uptoSmall }

/-- 'brackenkeep.TextBack', WHERE WHAT IT READS IS OF BULK AT MOST 1048576: true; the input reads as it did. -/
def textBackUptoRow : OpenClaim := { program := "ytbjngeaoimaooaadoor", sum := "371875af01017420ec152b194e6914056fe2c67219380a57174efac41f70e0fe", func := "bracken/brackenkeep.TextBack", spec := "textBack", named := ["unicode/utf8.first", "unicode/utf8.acceptRanges"], apart := false, laid := [("unicode/utf8.acceptRanges", laid_unicode_utf8_acceptRanges), ("unicode/utf8.first", laid_unicode_utf8_first)], narrowed := true }
def TextBackUptoSaid : Prop := textBackUptoRow.holds Tryd.pinned (OpenSpec.upto textBackSpec)

/-- 'brackenkeep.StateLess', WHERE WHAT IT READS IS OF BULK AT MOST 1048576: true; the input reads as it did. -/
def stateLessUptoRow : OpenClaim := { program := "ytbjngeaoimaooaadoor", sum := "371875af01017420ec152b194e6914056fe2c67219380a57174efac41f70e0fe", func := "bracken/brackenkeep.StateLess", spec := "stateLess", unfollowed := true, recurses := true, named := ["unicode/utf8.first", "unicode/utf8.acceptRanges"], apart := false, laid := [("unicode/utf8.acceptRanges", laid_unicode_utf8_acceptRanges), ("unicode/utf8.first", laid_unicode_utf8_first)], narrowed := true }
def StateLessUptoSaid : Prop := stateLessUptoRow.holds Tryd.pinned (OpenSpec.upto stateLessSpec)

/-- 'brackenkeep.StateSums', WHERE WHAT IT READS IS OF BULK AT MOST 1048576: true; the input reads as it did. -/
def stateSumsUptoRow : OpenClaim := { program := "ytbjngeaoimaooaadoor", sum := "371875af01017420ec152b194e6914056fe2c67219380a57174efac41f70e0fe", func := "bracken/brackenkeep.StateSums", spec := "stateSums", unfollowed := true, recurses := true, named := ["unicode/utf8.first", "unicode/utf8.acceptRanges"], apart := false, laid := [("unicode/utf8.acceptRanges", laid_unicode_utf8_acceptRanges), ("unicode/utf8.first", laid_unicode_utf8_first)], narrowed := true }
def StateSumsUptoSaid : Prop := stateSumsUptoRow.holds Tryd.pinned (OpenSpec.upto stateSumsSpec)

/-- 'brackenkeep.StateMore', WHERE WHAT IT READS IS OF BULK AT MOST 1048576: true; the input reads as it did. -/
def stateMoreUptoRow : OpenClaim := { program := "ytbjngeaoimaooaadoor", sum := "371875af01017420ec152b194e6914056fe2c67219380a57174efac41f70e0fe", func := "bracken/brackenkeep.StateMore", spec := "stateMore", unfollowed := true, recurses := true, named := ["unicode/utf8.first", "unicode/utf8.acceptRanges"], apart := false, laid := [("unicode/utf8.acceptRanges", laid_unicode_utf8_acceptRanges), ("unicode/utf8.first", laid_unicode_utf8_first)], narrowed := true }
def StateMoreUptoSaid : Prop := stateMoreUptoRow.holds Tryd.pinned (OpenSpec.upto stateMoreSpec)

/-- 'brackenkeep.StateRooms', WHERE WHAT IT READS IS OF BULK AT MOST 1048576: true; the input reads as it did. -/
def stateRoomsUptoRow : OpenClaim := { program := "ytbjngeaoimaooaadoor", sum := "371875af01017420ec152b194e6914056fe2c67219380a57174efac41f70e0fe", func := "bracken/brackenkeep.StateRooms", spec := "stateRooms", unfollowed := true, recurses := true, named := ["unicode/utf8.first", "unicode/utf8.acceptRanges"], apart := false, laid := [("unicode/utf8.acceptRanges", laid_unicode_utf8_acceptRanges), ("unicode/utf8.first", laid_unicode_utf8_first)], narrowed := true }
def StateRoomsUptoSaid : Prop := stateRoomsUptoRow.holds Tryd.pinned (OpenSpec.upto stateRoomsSpec)

/-- 'brackenkeep.StateFit', WHERE WHAT IT READS IS OF BULK AT MOST 1048576: true; the input reads as it did. -/
def stateFitUptoRow : OpenClaim := { program := "ytbjngeaoimaooaadoor", sum := "371875af01017420ec152b194e6914056fe2c67219380a57174efac41f70e0fe", func := "bracken/brackenkeep.StateFit", spec := "stateFit", unfollowed := true, recurses := true, named := ["unicode/utf8.first", "unicode/utf8.acceptRanges"], apart := false, laid := [("unicode/utf8.acceptRanges", laid_unicode_utf8_acceptRanges), ("unicode/utf8.first", laid_unicode_utf8_first)], narrowed := true }
def StateFitUptoSaid : Prop := stateFitUptoRow.holds Tryd.pinned (OpenSpec.upto stateFitSpec)

/-- 'brackenkeep.UpSteps', WHERE WHAT IT READS IS OF BULK AT MOST 1048576: true; the input reads as it did. -/
def upStepsUptoRow : OpenClaim := { program := "ytbjngeaoimaooaadoor", sum := "371875af01017420ec152b194e6914056fe2c67219380a57174efac41f70e0fe", func := "bracken/brackenkeep.UpSteps", spec := "upSteps", unfollowed := true, recurses := true, named := ["unicode/utf8.first", "unicode/utf8.acceptRanges"], apart := false, laid := [("unicode/utf8.acceptRanges", laid_unicode_utf8_acceptRanges), ("unicode/utf8.first", laid_unicode_utf8_first)], narrowed := true }
def UpStepsUptoSaid : Prop := upStepsUptoRow.holds Tryd.pinned (OpenSpec.upto upStepsSpec)

/-- 'brackenkeep.UpKeeps', WHERE WHAT IT READS IS OF BULK AT MOST 1048576: true; the input reads as it did. -/
def upKeepsUptoRow : OpenClaim := { program := "ytbjngeaoimaooaadoor", sum := "371875af01017420ec152b194e6914056fe2c67219380a57174efac41f70e0fe", func := "bracken/brackenkeep.UpKeeps", spec := "upKeeps", unfollowed := true, recurses := true, named := ["unicode/utf8.first", "unicode/utf8.acceptRanges"], apart := false, laid := [("unicode/utf8.acceptRanges", laid_unicode_utf8_acceptRanges), ("unicode/utf8.first", laid_unicode_utf8_first)], narrowed := true }
def UpKeepsUptoSaid : Prop := upKeepsUptoRow.holds Tryd.pinned (OpenSpec.upto upKeepsSpec)

end Rows
end Go.Proofs.YtbjngeaoimaooaaDoor
