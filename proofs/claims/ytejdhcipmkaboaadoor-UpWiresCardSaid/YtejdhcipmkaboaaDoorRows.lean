/-
  NARROWER THAN 'FOR EVERY INPUT', by the rows' own cells (each row's printed sentence says how): WireBack: laid · WireCut: laid · WireOne: laid · WireSizes: laid · WireFramed: laid · UpSteps: laid · UpKeeps: laid · UpDown: laid · UpLost: laid · UpWires: laid · UpRound: laid.
  DERIVED. THE GIVEN ROWS OF THIS SEAT. 11 by the template 'for every input the law returns true; each argument reads behind the call as it read before'; 0 by the template 'total and deterministic' (their statements: YtejdhcipmkaboaaDoorTotals.lean).
  GIVEN WITH THE SEED: the statements are not yours to turn. If you find one false, say at which input.
  Laid BY PROGRAM, IN A SANDBOX (cutbox-rows.mjs): the forced cells as the released guide's own fill.sh prints them over the translation 5a28bd8d2708ee3b… (all of the seat's roots in one cut). By AI agents, Wed Nov 11 2026. No macro, syntax, notation, axiom, sorry.
-/
import Derived.Test.YtejdhcipmkaboaaDoorChecked
import GoSem.PinnedTables
import GoSem.Claim
import GoSem.ClaimJoined
import GoSem.ClaimMapViews
import Derived.JoinedTies
import Derived.KernelRfl
namespace Go.Proofs.YtejdhcipmkaboaaDoor
/- THE CELL 'sum', in the pinned program and in every row, IS THE sha256 OF THE DUMP (.gsa) THAT YtejdhcipmkaboaaDoorProg.lean LOADS. Nothing in Lean hashes anything: it is a label: what it is worth is what the hold of that sum in a sandbox is worth. -/
noncomputable def Tryd.pinned : Pinned := { name := "ytejdhcipmkaboaadoor", sum := "5a28bd8d2708ee3b6e820eb3bba27212a004f1fb4c39a2bec3263e2f7cfd1780", checked := Tryd.checked }
namespace Rows
def none {H : Type} : Left H := { results := [], args := [] }

/- WHAT THE LISTED PACKAGE-LEVEL VARIABLES READ AS WHEN THE CALL BEGINS. Each datum BY PROGRAM (the guide's laid-datum.mjs) off the statement by which the dump's own 'gosem.cut.vars' lays the variable. In a bare row this is a premise. The card (YtejdhcipmkaboaaDoorCards.lean) ties it to the program's text. -/
def laid_unicode_utf8_acceptRanges {H : Type} : DataW H := .agg [.agg [.lit (.int .u8 128), .lit (.int .u8 191)], .agg [.lit (.int .u8 160), .lit (.int .u8 191)], .agg [.lit (.int .u8 128), .lit (.int .u8 159)], .agg [.lit (.int .u8 144), .lit (.int .u8 191)], .agg [.lit (.int .u8 128), .lit (.int .u8 143)], .agg [.lit (.int .u8 0), .lit (.int .u8 0)], .agg [.lit (.int .u8 0), .lit (.int .u8 0)], .agg [.lit (.int .u8 0), .lit (.int .u8 0)], .agg [.lit (.int .u8 0), .lit (.int .u8 0)], .agg [.lit (.int .u8 0), .lit (.int .u8 0)], .agg [.lit (.int .u8 0), .lit (.int .u8 0)], .agg [.lit (.int .u8 0), .lit (.int .u8 0)], .agg [.lit (.int .u8 0), .lit (.int .u8 0)], .agg [.lit (.int .u8 0), .lit (.int .u8 0)], .agg [.lit (.int .u8 0), .lit (.int .u8 0)], .agg [.lit (.int .u8 0), .lit (.int .u8 0)]]
/-- One of Go's own tables, pinned by name: the form's constant. -/
def laid_unicode_utf8_first : DataW Unit := Go.Pinned.utf8First

/-- 'brackenkeep.WireBack': WHATEVER THE INPUT: true; the input reads as it did. -/
def wireBackSpec : ChangeSpec := { name := "wireBack", fn := fun _ => fun
  | [d1, d2, d3] => { results := [.lit (.bool true)], args := [d1, d2, d3] }
  | _ => none }
def wireBackRow : OpenClaim := { program := "ytejdhcipmkaboaadoor", sum := "5a28bd8d2708ee3b6e820eb3bba27212a004f1fb4c39a2bec3263e2f7cfd1780", func := "bracken/brackenkeep.WireBack", spec := "wireBack", unfollowed := true, recurses := true, named := ["unicode/utf8.first", "unicode/utf8.acceptRanges"], apart := false, laid := [("unicode/utf8.acceptRanges", laid_unicode_utf8_acceptRanges), ("unicode/utf8.first", laid_unicode_utf8_first)] }
def WireBackSaid : Prop := wireBackRow.holds Tryd.pinned (OpenSpec.ofChange wireBackSpec)

/-- ITS FALSE NEIGHBOUR: 'it returns false'. Refute it at one input. -/
def wireBackWrong : ChangeSpec := { name := "wireBack", fn := fun _ => fun
  | [d1, d2, d3] => { results := [.lit (.bool false)], args := [d1, d2, d3] }
  | _ => none }
def WireBackWrongFalsely : Prop := wireBackRow.holds Tryd.pinned (OpenSpec.ofChange wireBackWrong)

/-- 'brackenkeep.WireCut': WHATEVER THE INPUT: true; the input reads as it did. -/
def wireCutSpec : ChangeSpec := { name := "wireCut", fn := fun _ => fun
  | [d1, d2, d3] => { results := [.lit (.bool true)], args := [d1, d2, d3] }
  | _ => none }
def wireCutRow : OpenClaim := { program := "ytejdhcipmkaboaadoor", sum := "5a28bd8d2708ee3b6e820eb3bba27212a004f1fb4c39a2bec3263e2f7cfd1780", func := "bracken/brackenkeep.WireCut", spec := "wireCut", unfollowed := true, recurses := true, named := ["unicode/utf8.first", "unicode/utf8.acceptRanges"], apart := false, laid := [("unicode/utf8.acceptRanges", laid_unicode_utf8_acceptRanges), ("unicode/utf8.first", laid_unicode_utf8_first)] }
def WireCutSaid : Prop := wireCutRow.holds Tryd.pinned (OpenSpec.ofChange wireCutSpec)

/-- ITS FALSE NEIGHBOUR: 'it returns false'. Refute it at one input. -/
def wireCutWrong : ChangeSpec := { name := "wireCut", fn := fun _ => fun
  | [d1, d2, d3] => { results := [.lit (.bool false)], args := [d1, d2, d3] }
  | _ => none }
def WireCutWrongFalsely : Prop := wireCutRow.holds Tryd.pinned (OpenSpec.ofChange wireCutWrong)

/-- 'brackenkeep.WireOne': WHATEVER THE INPUT: true; the input reads as it did. -/
def wireOneSpec : ChangeSpec := { name := "wireOne", fn := fun _ => fun
  | [d1, d2, d3] => { results := [.lit (.bool true)], args := [d1, d2, d3] }
  | _ => none }
def wireOneRow : OpenClaim := { program := "ytejdhcipmkaboaadoor", sum := "5a28bd8d2708ee3b6e820eb3bba27212a004f1fb4c39a2bec3263e2f7cfd1780", func := "bracken/brackenkeep.WireOne", spec := "wireOne", unfollowed := true, recurses := true, named := ["unicode/utf8.first", "unicode/utf8.acceptRanges"], apart := false, laid := [("unicode/utf8.acceptRanges", laid_unicode_utf8_acceptRanges), ("unicode/utf8.first", laid_unicode_utf8_first)] }
def WireOneSaid : Prop := wireOneRow.holds Tryd.pinned (OpenSpec.ofChange wireOneSpec)

/-- ITS FALSE NEIGHBOUR: 'it returns false'. Refute it at one input. -/
def wireOneWrong : ChangeSpec := { name := "wireOne", fn := fun _ => fun
  | [d1, d2, d3] => { results := [.lit (.bool false)], args := [d1, d2, d3] }
  | _ => none }
def WireOneWrongFalsely : Prop := wireOneRow.holds Tryd.pinned (OpenSpec.ofChange wireOneWrong)

/-- 'brackenkeep.WireSizes': WHATEVER THE INPUT: true; the input reads as it did. -/
def wireSizesSpec : ChangeSpec := { name := "wireSizes", fn := fun _ => fun
  | [d] => { results := [.lit (.bool true)], args := [d] }
  | _ => none }
def wireSizesRow : OpenClaim := { program := "ytejdhcipmkaboaadoor", sum := "5a28bd8d2708ee3b6e820eb3bba27212a004f1fb4c39a2bec3263e2f7cfd1780", func := "bracken/brackenkeep.WireSizes", spec := "wireSizes", unfollowed := true, recurses := true, named := ["unicode/utf8.first", "unicode/utf8.acceptRanges"], apart := false, laid := [("unicode/utf8.acceptRanges", laid_unicode_utf8_acceptRanges), ("unicode/utf8.first", laid_unicode_utf8_first)] }
def WireSizesSaid : Prop := wireSizesRow.holds Tryd.pinned (OpenSpec.ofChange wireSizesSpec)

/-- ITS FALSE NEIGHBOUR: 'it returns false'. Refute it at one input. -/
def wireSizesWrong : ChangeSpec := { name := "wireSizes", fn := fun _ => fun
  | [d] => { results := [.lit (.bool false)], args := [d] }
  | _ => none }
def WireSizesWrongFalsely : Prop := wireSizesRow.holds Tryd.pinned (OpenSpec.ofChange wireSizesWrong)

/-- 'brackenkeep.WireFramed': WHATEVER THE INPUT: true; the input reads as it did. -/
def wireFramedSpec : ChangeSpec := { name := "wireFramed", fn := fun _ => fun
  | [d1, d2] => { results := [.lit (.bool true)], args := [d1, d2] }
  | _ => none }
def wireFramedRow : OpenClaim := { program := "ytejdhcipmkaboaadoor", sum := "5a28bd8d2708ee3b6e820eb3bba27212a004f1fb4c39a2bec3263e2f7cfd1780", func := "bracken/brackenkeep.WireFramed", spec := "wireFramed", unfollowed := true, recurses := true, named := ["unicode/utf8.first", "unicode/utf8.acceptRanges"], apart := false, laid := [("unicode/utf8.acceptRanges", laid_unicode_utf8_acceptRanges), ("unicode/utf8.first", laid_unicode_utf8_first)] }
def WireFramedSaid : Prop := wireFramedRow.holds Tryd.pinned (OpenSpec.ofChange wireFramedSpec)

/-- ITS FALSE NEIGHBOUR: 'it returns false'. Refute it at one input. -/
def wireFramedWrong : ChangeSpec := { name := "wireFramed", fn := fun _ => fun
  | [d1, d2] => { results := [.lit (.bool false)], args := [d1, d2] }
  | _ => none }
def WireFramedWrongFalsely : Prop := wireFramedRow.holds Tryd.pinned (OpenSpec.ofChange wireFramedWrong)

/-- 'brackenkeep.UpSteps': WHATEVER THE INPUT: true; the input reads as it did. -/
def upStepsSpec : ChangeSpec := { name := "upSteps", fn := fun _ => fun
  | [d] => { results := [.lit (.bool true)], args := [d] }
  | _ => none }
def upStepsRow : OpenClaim := { program := "ytejdhcipmkaboaadoor", sum := "5a28bd8d2708ee3b6e820eb3bba27212a004f1fb4c39a2bec3263e2f7cfd1780", func := "bracken/brackenkeep.UpSteps", spec := "upSteps", unfollowed := true, recurses := true, named := ["unicode/utf8.first", "unicode/utf8.acceptRanges"], apart := false, laid := [("unicode/utf8.acceptRanges", laid_unicode_utf8_acceptRanges), ("unicode/utf8.first", laid_unicode_utf8_first)] }
def UpStepsSaid : Prop := upStepsRow.holds Tryd.pinned (OpenSpec.ofChange upStepsSpec)

/-- ITS FALSE NEIGHBOUR: 'it returns false'. Refute it at one input. -/
def upStepsWrong : ChangeSpec := { name := "upSteps", fn := fun _ => fun
  | [d] => { results := [.lit (.bool false)], args := [d] }
  | _ => none }
def UpStepsWrongFalsely : Prop := upStepsRow.holds Tryd.pinned (OpenSpec.ofChange upStepsWrong)

/-- 'brackenkeep.UpKeeps': WHATEVER THE INPUT: true; the input reads as it did. -/
def upKeepsSpec : ChangeSpec := { name := "upKeeps", fn := fun _ => fun
  | [d1, d2, d3] => { results := [.lit (.bool true)], args := [d1, d2, d3] }
  | _ => none }
def upKeepsRow : OpenClaim := { program := "ytejdhcipmkaboaadoor", sum := "5a28bd8d2708ee3b6e820eb3bba27212a004f1fb4c39a2bec3263e2f7cfd1780", func := "bracken/brackenkeep.UpKeeps", spec := "upKeeps", unfollowed := true, recurses := true, named := ["unicode/utf8.first", "unicode/utf8.acceptRanges"], apart := false, laid := [("unicode/utf8.acceptRanges", laid_unicode_utf8_acceptRanges), ("unicode/utf8.first", laid_unicode_utf8_first)] }
def UpKeepsSaid : Prop := upKeepsRow.holds Tryd.pinned (OpenSpec.ofChange upKeepsSpec)

/-- ITS FALSE NEIGHBOUR: 'it returns false'. Refute it at one input. -/
def upKeepsWrong : ChangeSpec := { name := "upKeeps", fn := fun _ => fun
  | [d1, d2, d3] => { results := [.lit (.bool false)], args := [d1, d2, d3] }
  | _ => none }
def UpKeepsWrongFalsely : Prop := upKeepsRow.holds Tryd.pinned (OpenSpec.ofChange upKeepsWrong)

/-- 'brackenkeep.UpDown': WHATEVER THE INPUT: true; the input reads as it did. -/
def upDownSpec : ChangeSpec := { name := "upDown", fn := fun _ => fun
  | [d1, d2] => { results := [.lit (.bool true)], args := [d1, d2] }
  | _ => none }
def upDownRow : OpenClaim := { program := "ytejdhcipmkaboaadoor", sum := "5a28bd8d2708ee3b6e820eb3bba27212a004f1fb4c39a2bec3263e2f7cfd1780", func := "bracken/brackenkeep.UpDown", spec := "upDown", unfollowed := true, recurses := true, named := ["unicode/utf8.first", "unicode/utf8.acceptRanges"], apart := false, laid := [("unicode/utf8.acceptRanges", laid_unicode_utf8_acceptRanges), ("unicode/utf8.first", laid_unicode_utf8_first)] }
def UpDownSaid : Prop := upDownRow.holds Tryd.pinned (OpenSpec.ofChange upDownSpec)

/-- ITS FALSE NEIGHBOUR: 'it returns false'. Refute it at one input. -/
def upDownWrong : ChangeSpec := { name := "upDown", fn := fun _ => fun
  | [d1, d2] => { results := [.lit (.bool false)], args := [d1, d2] }
  | _ => none }
def UpDownWrongFalsely : Prop := upDownRow.holds Tryd.pinned (OpenSpec.ofChange upDownWrong)

/-- 'brackenkeep.UpLost': WHATEVER THE INPUT: true; the input reads as it did. -/
def upLostSpec : ChangeSpec := { name := "upLost", fn := fun _ => fun
  | [d1, d2] => { results := [.lit (.bool true)], args := [d1, d2] }
  | _ => none }
def upLostRow : OpenClaim := { program := "ytejdhcipmkaboaadoor", sum := "5a28bd8d2708ee3b6e820eb3bba27212a004f1fb4c39a2bec3263e2f7cfd1780", func := "bracken/brackenkeep.UpLost", spec := "upLost", unfollowed := true, recurses := true, named := ["unicode/utf8.first", "unicode/utf8.acceptRanges"], apart := false, laid := [("unicode/utf8.acceptRanges", laid_unicode_utf8_acceptRanges), ("unicode/utf8.first", laid_unicode_utf8_first)] }
def UpLostSaid : Prop := upLostRow.holds Tryd.pinned (OpenSpec.ofChange upLostSpec)

/-- ITS FALSE NEIGHBOUR: 'it returns false'. Refute it at one input. -/
def upLostWrong : ChangeSpec := { name := "upLost", fn := fun _ => fun
  | [d1, d2] => { results := [.lit (.bool false)], args := [d1, d2] }
  | _ => none }
def UpLostWrongFalsely : Prop := upLostRow.holds Tryd.pinned (OpenSpec.ofChange upLostWrong)

/-- 'brackenkeep.UpWires': WHATEVER THE INPUT: true; the input reads as it did. -/
def upWiresSpec : ChangeSpec := { name := "upWires", fn := fun _ => fun
  | [d1, d2, d3] => { results := [.lit (.bool true)], args := [d1, d2, d3] }
  | _ => none }
def upWiresRow : OpenClaim := { program := "ytejdhcipmkaboaadoor", sum := "5a28bd8d2708ee3b6e820eb3bba27212a004f1fb4c39a2bec3263e2f7cfd1780", func := "bracken/brackenkeep.UpWires", spec := "upWires", unfollowed := true, recurses := true, named := ["unicode/utf8.first", "unicode/utf8.acceptRanges"], apart := false, laid := [("unicode/utf8.acceptRanges", laid_unicode_utf8_acceptRanges), ("unicode/utf8.first", laid_unicode_utf8_first)] }
def UpWiresSaid : Prop := upWiresRow.holds Tryd.pinned (OpenSpec.ofChange upWiresSpec)

/-- ITS FALSE NEIGHBOUR: 'it returns false'. Refute it at one input. -/
def upWiresWrong : ChangeSpec := { name := "upWires", fn := fun _ => fun
  | [d1, d2, d3] => { results := [.lit (.bool false)], args := [d1, d2, d3] }
  | _ => none }
def UpWiresWrongFalsely : Prop := upWiresRow.holds Tryd.pinned (OpenSpec.ofChange upWiresWrong)

/-- 'brackenkeep.UpRound': WHATEVER THE INPUT: true; the input reads as it did. -/
def upRoundSpec : ChangeSpec := { name := "upRound", fn := fun _ => fun
  | [d1, d2] => { results := [.lit (.bool true)], args := [d1, d2] }
  | _ => none }
def upRoundRow : OpenClaim := { program := "ytejdhcipmkaboaadoor", sum := "5a28bd8d2708ee3b6e820eb3bba27212a004f1fb4c39a2bec3263e2f7cfd1780", func := "bracken/brackenkeep.UpRound", spec := "upRound", unfollowed := true, recurses := true, named := ["unicode/utf8.first", "unicode/utf8.acceptRanges"], apart := false, laid := [("unicode/utf8.acceptRanges", laid_unicode_utf8_acceptRanges), ("unicode/utf8.first", laid_unicode_utf8_first)] }
def UpRoundSaid : Prop := upRoundRow.holds Tryd.pinned (OpenSpec.ofChange upRoundSpec)

/-- ITS FALSE NEIGHBOUR: 'it returns false'. Refute it at one input. -/
def upRoundWrong : ChangeSpec := { name := "upRound", fn := fun _ => fun
  | [d1, d2] => { results := [.lit (.bool false)], args := [d1, d2] }
  | _ => none }
def UpRoundWrongFalsely : Prop := upRoundRow.holds Tryd.pinned (OpenSpec.ofChange upRoundWrong)

/- THE SECOND FORM. 'bulk': how many values and letters a reading holds, each counted each time it is reached (what is shared counts as often as it is met; a slice's spare places count too). A statement '..UptoSaid' is the law's where the arguments, and the package variables that the reading takes, are together of bulk at most 1048576: NARROWER than '..Said'. Prove '..Said' where nothing that the law and all that it calls make is longer than what came in: it says more and counts as full. Else prove '..UptoSaid'. A law counts once. -/
mutual
def uptoBulk {H : Type} : DataW H → Nat
  | .lit (.string bytes) => bytes.length + 1
  | .lit _ => 1
  | .nil => 1
  | .ptr d => uptoBulk d + 1
  | .slice elems spare => uptoBulkAll elems + uptoBulkAll spare + 1
  | .agg parts => uptoBulkAll parts + 1
  | .iface _ d => uptoBulk d + 1
  | .map entries => uptoBulkEntries entries + 1
  | .held _ => 1
def uptoBulkAll {H : Type} : List (DataW H) → Nat
  | [] => 0
  | d :: r => uptoBulk d + uptoBulkAll r
def uptoBulkEntries {H : Type} : List (Lit × DataW H) → Nat
  | [] => 0
  | x :: r => uptoBulkEntry x + uptoBulkEntries r
def uptoBulkEntry {H : Type} : Lit × DataW H → Nat
  | (.string bytes, d) => bytes.length + uptoBulk d + 1
  | (_, d) => uptoBulk d + 1
 end
def uptoSmall : (H : Type) → List (DataW H) → Bool := fun _ ds => decide (uptoBulkAll ds ≤ 1048576)
def OpenSpec.upto (s : _root_.Go.ChangeSpec) : _root_.Go.OpenSpec := { _root_.Go.OpenSpec.ofChange s with cond := some uptoSmall }

/-- 'brackenkeep.WireBack', WHERE WHAT IT READS IS OF BULK AT MOST 1048576: true; the input reads as it did. -/
def wireBackUptoRow : OpenClaim := { program := "ytejdhcipmkaboaadoor", sum := "5a28bd8d2708ee3b6e820eb3bba27212a004f1fb4c39a2bec3263e2f7cfd1780", func := "bracken/brackenkeep.WireBack", spec := "wireBack", unfollowed := true, recurses := true, named := ["unicode/utf8.first", "unicode/utf8.acceptRanges"], apart := false, laid := [("unicode/utf8.acceptRanges", laid_unicode_utf8_acceptRanges), ("unicode/utf8.first", laid_unicode_utf8_first)], narrowed := true }
def WireBackUptoSaid : Prop := wireBackUptoRow.holds Tryd.pinned (OpenSpec.upto wireBackSpec)

/-- 'brackenkeep.WireCut', WHERE WHAT IT READS IS OF BULK AT MOST 1048576: true; the input reads as it did. -/
def wireCutUptoRow : OpenClaim := { program := "ytejdhcipmkaboaadoor", sum := "5a28bd8d2708ee3b6e820eb3bba27212a004f1fb4c39a2bec3263e2f7cfd1780", func := "bracken/brackenkeep.WireCut", spec := "wireCut", unfollowed := true, recurses := true, named := ["unicode/utf8.first", "unicode/utf8.acceptRanges"], apart := false, laid := [("unicode/utf8.acceptRanges", laid_unicode_utf8_acceptRanges), ("unicode/utf8.first", laid_unicode_utf8_first)], narrowed := true }
def WireCutUptoSaid : Prop := wireCutUptoRow.holds Tryd.pinned (OpenSpec.upto wireCutSpec)

/-- 'brackenkeep.WireOne', WHERE WHAT IT READS IS OF BULK AT MOST 1048576: true; the input reads as it did. -/
def wireOneUptoRow : OpenClaim := { program := "ytejdhcipmkaboaadoor", sum := "5a28bd8d2708ee3b6e820eb3bba27212a004f1fb4c39a2bec3263e2f7cfd1780", func := "bracken/brackenkeep.WireOne", spec := "wireOne", unfollowed := true, recurses := true, named := ["unicode/utf8.first", "unicode/utf8.acceptRanges"], apart := false, laid := [("unicode/utf8.acceptRanges", laid_unicode_utf8_acceptRanges), ("unicode/utf8.first", laid_unicode_utf8_first)], narrowed := true }
def WireOneUptoSaid : Prop := wireOneUptoRow.holds Tryd.pinned (OpenSpec.upto wireOneSpec)

/-- 'brackenkeep.WireSizes', WHERE WHAT IT READS IS OF BULK AT MOST 1048576: true; the input reads as it did. -/
def wireSizesUptoRow : OpenClaim := { program := "ytejdhcipmkaboaadoor", sum := "5a28bd8d2708ee3b6e820eb3bba27212a004f1fb4c39a2bec3263e2f7cfd1780", func := "bracken/brackenkeep.WireSizes", spec := "wireSizes", unfollowed := true, recurses := true, named := ["unicode/utf8.first", "unicode/utf8.acceptRanges"], apart := false, laid := [("unicode/utf8.acceptRanges", laid_unicode_utf8_acceptRanges), ("unicode/utf8.first", laid_unicode_utf8_first)], narrowed := true }
def WireSizesUptoSaid : Prop := wireSizesUptoRow.holds Tryd.pinned (OpenSpec.upto wireSizesSpec)

/-- 'brackenkeep.WireFramed', WHERE WHAT IT READS IS OF BULK AT MOST 1048576: true; the input reads as it did. -/
def wireFramedUptoRow : OpenClaim := { program := "ytejdhcipmkaboaadoor", sum := "5a28bd8d2708ee3b6e820eb3bba27212a004f1fb4c39a2bec3263e2f7cfd1780", func := "bracken/brackenkeep.WireFramed", spec := "wireFramed", unfollowed := true, recurses := true, named := ["unicode/utf8.first", "unicode/utf8.acceptRanges"], apart := false, laid := [("unicode/utf8.acceptRanges", laid_unicode_utf8_acceptRanges), ("unicode/utf8.first", laid_unicode_utf8_first)], narrowed := true }
def WireFramedUptoSaid : Prop := wireFramedUptoRow.holds Tryd.pinned (OpenSpec.upto wireFramedSpec)

/-- 'brackenkeep.UpSteps', WHERE WHAT IT READS IS OF BULK AT MOST 1048576: true; the input reads as it did. -/
def upStepsUptoRow : OpenClaim := { program := "ytejdhcipmkaboaadoor", sum := "5a28bd8d2708ee3b6e820eb3bba27212a004f1fb4c39a2bec3263e2f7cfd1780", func := "bracken/brackenkeep.UpSteps", spec := "upSteps", unfollowed := true, recurses := true, named := ["unicode/utf8.first", "unicode/utf8.acceptRanges"], apart := false, laid := [("unicode/utf8.acceptRanges", laid_unicode_utf8_acceptRanges), ("unicode/utf8.first", laid_unicode_utf8_first)], narrowed := true }
def UpStepsUptoSaid : Prop := upStepsUptoRow.holds Tryd.pinned (OpenSpec.upto upStepsSpec)

/-- 'brackenkeep.UpKeeps', WHERE WHAT IT READS IS OF BULK AT MOST 1048576: true; the input reads as it did. -/
def upKeepsUptoRow : OpenClaim := { program := "ytejdhcipmkaboaadoor", sum := "5a28bd8d2708ee3b6e820eb3bba27212a004f1fb4c39a2bec3263e2f7cfd1780", func := "bracken/brackenkeep.UpKeeps", spec := "upKeeps", unfollowed := true, recurses := true, named := ["unicode/utf8.first", "unicode/utf8.acceptRanges"], apart := false, laid := [("unicode/utf8.acceptRanges", laid_unicode_utf8_acceptRanges), ("unicode/utf8.first", laid_unicode_utf8_first)], narrowed := true }
def UpKeepsUptoSaid : Prop := upKeepsUptoRow.holds Tryd.pinned (OpenSpec.upto upKeepsSpec)

/-- 'brackenkeep.UpDown', WHERE WHAT IT READS IS OF BULK AT MOST 1048576: true; the input reads as it did. -/
def upDownUptoRow : OpenClaim := { program := "ytejdhcipmkaboaadoor", sum := "5a28bd8d2708ee3b6e820eb3bba27212a004f1fb4c39a2bec3263e2f7cfd1780", func := "bracken/brackenkeep.UpDown", spec := "upDown", unfollowed := true, recurses := true, named := ["unicode/utf8.first", "unicode/utf8.acceptRanges"], apart := false, laid := [("unicode/utf8.acceptRanges", laid_unicode_utf8_acceptRanges), ("unicode/utf8.first", laid_unicode_utf8_first)], narrowed := true }
def UpDownUptoSaid : Prop := upDownUptoRow.holds Tryd.pinned (OpenSpec.upto upDownSpec)

/-- 'brackenkeep.UpLost', WHERE WHAT IT READS IS OF BULK AT MOST 1048576: true; the input reads as it did. -/
def upLostUptoRow : OpenClaim := { program := "ytejdhcipmkaboaadoor", sum := "5a28bd8d2708ee3b6e820eb3bba27212a004f1fb4c39a2bec3263e2f7cfd1780", func := "bracken/brackenkeep.UpLost", spec := "upLost", unfollowed := true, recurses := true, named := ["unicode/utf8.first", "unicode/utf8.acceptRanges"], apart := false, laid := [("unicode/utf8.acceptRanges", laid_unicode_utf8_acceptRanges), ("unicode/utf8.first", laid_unicode_utf8_first)], narrowed := true }
def UpLostUptoSaid : Prop := upLostUptoRow.holds Tryd.pinned (OpenSpec.upto upLostSpec)

/-- 'brackenkeep.UpWires', WHERE WHAT IT READS IS OF BULK AT MOST 1048576: true; the input reads as it did. -/
def upWiresUptoRow : OpenClaim := { program := "ytejdhcipmkaboaadoor", sum := "5a28bd8d2708ee3b6e820eb3bba27212a004f1fb4c39a2bec3263e2f7cfd1780", func := "bracken/brackenkeep.UpWires", spec := "upWires", unfollowed := true, recurses := true, named := ["unicode/utf8.first", "unicode/utf8.acceptRanges"], apart := false, laid := [("unicode/utf8.acceptRanges", laid_unicode_utf8_acceptRanges), ("unicode/utf8.first", laid_unicode_utf8_first)], narrowed := true }
def UpWiresUptoSaid : Prop := upWiresUptoRow.holds Tryd.pinned (OpenSpec.upto upWiresSpec)

/-- 'brackenkeep.UpRound', WHERE WHAT IT READS IS OF BULK AT MOST 1048576: true; the input reads as it did. -/
def upRoundUptoRow : OpenClaim := { program := "ytejdhcipmkaboaadoor", sum := "5a28bd8d2708ee3b6e820eb3bba27212a004f1fb4c39a2bec3263e2f7cfd1780", func := "bracken/brackenkeep.UpRound", spec := "upRound", unfollowed := true, recurses := true, named := ["unicode/utf8.first", "unicode/utf8.acceptRanges"], apart := false, laid := [("unicode/utf8.acceptRanges", laid_unicode_utf8_acceptRanges), ("unicode/utf8.first", laid_unicode_utf8_first)], narrowed := true }
def UpRoundUptoSaid : Prop := upRoundUptoRow.holds Tryd.pinned (OpenSpec.upto upRoundSpec)

end Rows
end Go.Proofs.YtejdhcipmkaboaaDoor
