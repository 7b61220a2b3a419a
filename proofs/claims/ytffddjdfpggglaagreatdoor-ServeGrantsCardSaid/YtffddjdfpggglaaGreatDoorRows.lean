/-
  NARROWER THAN 'FOR EVERY INPUT', by the rows' own cells (each row's printed sentence says how): ServeMay: laid · ServeRefused: laid · ServeLeases: laid · ServePuts: laid · ServeGrants: laid · OwnMemory: laid · ServeTicks: laid · ServeOrder: laid · ServeTold: laid.
  DERIVED. THE GIVEN ROWS OF THIS SEAT. 9 by the template 'for every input the law returns true; each argument reads behind the call as it read before'; 0 by the template 'total and deterministic' (their statements: YtffddjdfpggglaaGreatDoorTotals.lean).
  GIVEN WITH THE SEED: the statements are not yours to turn. If you find one false, say at which input.
  Laid BY PROGRAM, IN A SANDBOX (cutbox-rows.mjs): the forced cells as the released guide's own fill.sh prints them over the translation 34cdb533f44f2c99… (all of the seat's roots in one cut). By AI agents, Wed Nov 11 2026. No macro, syntax, notation, axiom, sorry.
-/
import Derived.Test.YtffddjdfpggglaaGreatDoorChecked
import GoSem.PinnedTables
import GoSem.Claim
import GoSem.ClaimJoined
import GoSem.ClaimMapViews
import Derived.JoinedTies
import Derived.KernelRfl
namespace Go.Proofs.YtffddjdfpggglaaGreatDoor
/- THE CELL 'sum', in the pinned program and in every row, IS THE sha256 OF THE DUMP (.gsa) THAT YtffddjdfpggglaaGreatDoorProg.lean LOADS. Nothing in Lean hashes anything: it is a label: what it is worth is what the hold of that sum in a sandbox is worth. -/
noncomputable def Tryz.pinned : Pinned := { name := "ytffddjdfpggglaagreatdoor", sum := "34cdb533f44f2c99835dd8c0773214efb15be34552d8b499b6b7c6632deb2a08", checked := Tryz.checked }
namespace Rows
def none {H : Type} : Left H := { results := [], args := [] }

/- WHAT THE LISTED PACKAGE-LEVEL VARIABLES READ AS WHEN THE CALL BEGINS. Each datum BY PROGRAM (the guide's laid-datum.mjs) off the statement by which the dump's own 'gosem.cut.vars' lays the variable. In a bare row this is a premise. The card (YtffddjdfpggglaaGreatDoorCards.lean) ties it to the program's text. -/
def laid_unicode_utf8_acceptRanges {H : Type} : DataW H := .agg [.agg [.lit (.int .u8 128), .lit (.int .u8 191)], .agg [.lit (.int .u8 160), .lit (.int .u8 191)], .agg [.lit (.int .u8 128), .lit (.int .u8 159)], .agg [.lit (.int .u8 144), .lit (.int .u8 191)], .agg [.lit (.int .u8 128), .lit (.int .u8 143)], .agg [.lit (.int .u8 0), .lit (.int .u8 0)], .agg [.lit (.int .u8 0), .lit (.int .u8 0)], .agg [.lit (.int .u8 0), .lit (.int .u8 0)], .agg [.lit (.int .u8 0), .lit (.int .u8 0)], .agg [.lit (.int .u8 0), .lit (.int .u8 0)], .agg [.lit (.int .u8 0), .lit (.int .u8 0)], .agg [.lit (.int .u8 0), .lit (.int .u8 0)], .agg [.lit (.int .u8 0), .lit (.int .u8 0)], .agg [.lit (.int .u8 0), .lit (.int .u8 0)], .agg [.lit (.int .u8 0), .lit (.int .u8 0)], .agg [.lit (.int .u8 0), .lit (.int .u8 0)]]
/-- One of Go's own tables, pinned by name: the form's constant. -/
def laid_unicode_utf8_first : DataW Unit := Go.Pinned.utf8First

/-- 'brackenkeep.ServeMay': WHATEVER THE INPUT: true; the input reads as it did. -/
def serveMaySpec : ChangeSpec := { name := "serveMay", fn := fun _ => fun
  | [d1, d2] => { results := [.lit (.bool true)], args := [d1, d2] }
  | _ => none }
def serveMayRow : OpenClaim := { program := "ytffddjdfpggglaagreatdoor", sum := "34cdb533f44f2c99835dd8c0773214efb15be34552d8b499b6b7c6632deb2a08", func := "bracken/brackenkeep.ServeMay", spec := "serveMay", inPlace := ["slices.overlaps[bracken/api.Job]", "slices.overlaps[bracken/api.Node]", "slices.overlaps[bracken/api.Lease]"], unfollowed := true, recurses := true, named := ["unicode/utf8.first", "unicode/utf8.acceptRanges"], apart := false, laid := [("unicode/utf8.acceptRanges", laid_unicode_utf8_acceptRanges), ("unicode/utf8.first", laid_unicode_utf8_first)] }
def ServeMaySaid : Prop := serveMayRow.holds Tryz.pinned (OpenSpec.ofChange serveMaySpec)

/-- ITS FALSE NEIGHBOUR: 'it returns false'. Refute it at one input. -/
def serveMayWrong : ChangeSpec := { name := "serveMay", fn := fun _ => fun
  | [d1, d2] => { results := [.lit (.bool false)], args := [d1, d2] }
  | _ => none }
def ServeMayWrongFalsely : Prop := serveMayRow.holds Tryz.pinned (OpenSpec.ofChange serveMayWrong)

/-- 'brackenkeep.ServeRefused': WHATEVER THE INPUT: true; the input reads as it did. -/
def serveRefusedSpec : ChangeSpec := { name := "serveRefused", fn := fun _ => fun
  | [d1, d2] => { results := [.lit (.bool true)], args := [d1, d2] }
  | _ => none }
def serveRefusedRow : OpenClaim := { program := "ytffddjdfpggglaagreatdoor", sum := "34cdb533f44f2c99835dd8c0773214efb15be34552d8b499b6b7c6632deb2a08", func := "bracken/brackenkeep.ServeRefused", spec := "serveRefused", inPlace := ["slices.overlaps[bracken/api.Job]", "slices.overlaps[bracken/api.Node]", "slices.overlaps[bracken/api.Lease]"], unfollowed := true, recurses := true, named := ["unicode/utf8.first", "unicode/utf8.acceptRanges"], apart := false, laid := [("unicode/utf8.acceptRanges", laid_unicode_utf8_acceptRanges), ("unicode/utf8.first", laid_unicode_utf8_first)] }
def ServeRefusedSaid : Prop := serveRefusedRow.holds Tryz.pinned (OpenSpec.ofChange serveRefusedSpec)

/-- ITS FALSE NEIGHBOUR: 'it returns false'. Refute it at one input. -/
def serveRefusedWrong : ChangeSpec := { name := "serveRefused", fn := fun _ => fun
  | [d1, d2] => { results := [.lit (.bool false)], args := [d1, d2] }
  | _ => none }
def ServeRefusedWrongFalsely : Prop := serveRefusedRow.holds Tryz.pinned (OpenSpec.ofChange serveRefusedWrong)

/-- 'brackenkeep.ServeLeases': WHATEVER THE INPUT: true; the input reads as it did. -/
def serveLeasesSpec : ChangeSpec := { name := "serveLeases", fn := fun _ => fun
  | [d1, d2, d3] => { results := [.lit (.bool true)], args := [d1, d2, d3] }
  | _ => none }
def serveLeasesRow : OpenClaim := { program := "ytffddjdfpggglaagreatdoor", sum := "34cdb533f44f2c99835dd8c0773214efb15be34552d8b499b6b7c6632deb2a08", func := "bracken/brackenkeep.ServeLeases", spec := "serveLeases", inPlace := ["slices.overlaps[bracken/api.Job]", "slices.overlaps[bracken/api.Node]", "slices.overlaps[bracken/api.Lease]"], unfollowed := true, recurses := true, named := ["unicode/utf8.first", "unicode/utf8.acceptRanges"], apart := false, laid := [("unicode/utf8.acceptRanges", laid_unicode_utf8_acceptRanges), ("unicode/utf8.first", laid_unicode_utf8_first)] }
def ServeLeasesSaid : Prop := serveLeasesRow.holds Tryz.pinned (OpenSpec.ofChange serveLeasesSpec)

/-- ITS FALSE NEIGHBOUR: 'it returns false'. Refute it at one input. -/
def serveLeasesWrong : ChangeSpec := { name := "serveLeases", fn := fun _ => fun
  | [d1, d2, d3] => { results := [.lit (.bool false)], args := [d1, d2, d3] }
  | _ => none }
def ServeLeasesWrongFalsely : Prop := serveLeasesRow.holds Tryz.pinned (OpenSpec.ofChange serveLeasesWrong)

/-- 'brackenkeep.ServePuts': WHATEVER THE INPUT: true; the input reads as it did. -/
def servePutsSpec : ChangeSpec := { name := "servePuts", fn := fun _ => fun
  | [d1, d2] => { results := [.lit (.bool true)], args := [d1, d2] }
  | _ => none }
def servePutsRow : OpenClaim := { program := "ytffddjdfpggglaagreatdoor", sum := "34cdb533f44f2c99835dd8c0773214efb15be34552d8b499b6b7c6632deb2a08", func := "bracken/brackenkeep.ServePuts", spec := "servePuts", inPlace := ["slices.overlaps[bracken/api.Job]", "slices.overlaps[bracken/api.Node]", "slices.overlaps[bracken/api.Lease]"], unfollowed := true, recurses := true, named := ["unicode/utf8.first", "unicode/utf8.acceptRanges"], apart := false, laid := [("unicode/utf8.acceptRanges", laid_unicode_utf8_acceptRanges), ("unicode/utf8.first", laid_unicode_utf8_first)] }
def ServePutsSaid : Prop := servePutsRow.holds Tryz.pinned (OpenSpec.ofChange servePutsSpec)

/-- ITS FALSE NEIGHBOUR: 'it returns false'. Refute it at one input. -/
def servePutsWrong : ChangeSpec := { name := "servePuts", fn := fun _ => fun
  | [d1, d2] => { results := [.lit (.bool false)], args := [d1, d2] }
  | _ => none }
def ServePutsWrongFalsely : Prop := servePutsRow.holds Tryz.pinned (OpenSpec.ofChange servePutsWrong)

/-- 'brackenkeep.ServeGrants': WHATEVER THE INPUT: true; the input reads as it did. -/
def serveGrantsSpec : ChangeSpec := { name := "serveGrants", fn := fun _ => fun
  | [d1, d2] => { results := [.lit (.bool true)], args := [d1, d2] }
  | _ => none }
def serveGrantsRow : OpenClaim := { program := "ytffddjdfpggglaagreatdoor", sum := "34cdb533f44f2c99835dd8c0773214efb15be34552d8b499b6b7c6632deb2a08", func := "bracken/brackenkeep.ServeGrants", spec := "serveGrants", inPlace := ["slices.overlaps[bracken/api.Job]", "slices.overlaps[bracken/api.Node]", "slices.overlaps[bracken/api.Lease]"], unfollowed := true, recurses := true, named := ["unicode/utf8.first", "unicode/utf8.acceptRanges"], apart := false, laid := [("unicode/utf8.acceptRanges", laid_unicode_utf8_acceptRanges), ("unicode/utf8.first", laid_unicode_utf8_first)] }
def ServeGrantsSaid : Prop := serveGrantsRow.holds Tryz.pinned (OpenSpec.ofChange serveGrantsSpec)

/-- ITS FALSE NEIGHBOUR: 'it returns false'. Refute it at one input. -/
def serveGrantsWrong : ChangeSpec := { name := "serveGrants", fn := fun _ => fun
  | [d1, d2] => { results := [.lit (.bool false)], args := [d1, d2] }
  | _ => none }
def ServeGrantsWrongFalsely : Prop := serveGrantsRow.holds Tryz.pinned (OpenSpec.ofChange serveGrantsWrong)

/-- 'brackenkeep.OwnMemory': WHATEVER THE INPUT: true; the input reads as it did. -/
def ownMemorySpec : ChangeSpec := { name := "ownMemory", fn := fun _ => fun
  | [d1, d2] => { results := [.lit (.bool true)], args := [d1, d2] }
  | _ => none }
def ownMemoryRow : OpenClaim := { program := "ytffddjdfpggglaagreatdoor", sum := "34cdb533f44f2c99835dd8c0773214efb15be34552d8b499b6b7c6632deb2a08", func := "bracken/brackenkeep.OwnMemory", spec := "ownMemory", inPlace := ["slices.overlaps[bracken/api.Job]", "slices.overlaps[bracken/api.Node]", "slices.overlaps[bracken/api.Lease]"], unfollowed := true, recurses := true, named := ["unicode/utf8.first", "unicode/utf8.acceptRanges"], apart := false, laid := [("unicode/utf8.acceptRanges", laid_unicode_utf8_acceptRanges), ("unicode/utf8.first", laid_unicode_utf8_first)] }
def OwnMemorySaid : Prop := ownMemoryRow.holds Tryz.pinned (OpenSpec.ofChange ownMemorySpec)

/-- ITS FALSE NEIGHBOUR: 'it returns false'. Refute it at one input. -/
def ownMemoryWrong : ChangeSpec := { name := "ownMemory", fn := fun _ => fun
  | [d1, d2] => { results := [.lit (.bool false)], args := [d1, d2] }
  | _ => none }
def OwnMemoryWrongFalsely : Prop := ownMemoryRow.holds Tryz.pinned (OpenSpec.ofChange ownMemoryWrong)

/-- 'brackenkeep.ServeTicks': WHATEVER THE INPUT: true; the input reads as it did. -/
def serveTicksSpec : ChangeSpec := { name := "serveTicks", fn := fun _ => fun
  | [d1, d2, d3] => { results := [.lit (.bool true)], args := [d1, d2, d3] }
  | _ => none }
def serveTicksRow : OpenClaim := { program := "ytffddjdfpggglaagreatdoor", sum := "34cdb533f44f2c99835dd8c0773214efb15be34552d8b499b6b7c6632deb2a08", func := "bracken/brackenkeep.ServeTicks", spec := "serveTicks", inPlace := ["slices.overlaps[bracken/api.Job]", "slices.overlaps[bracken/api.Node]", "slices.overlaps[bracken/api.Lease]"], unfollowed := true, recurses := true, named := ["unicode/utf8.first", "unicode/utf8.acceptRanges"], apart := false, laid := [("unicode/utf8.acceptRanges", laid_unicode_utf8_acceptRanges), ("unicode/utf8.first", laid_unicode_utf8_first)] }
def ServeTicksSaid : Prop := serveTicksRow.holds Tryz.pinned (OpenSpec.ofChange serveTicksSpec)

/-- ITS FALSE NEIGHBOUR: 'it returns false'. Refute it at one input. -/
def serveTicksWrong : ChangeSpec := { name := "serveTicks", fn := fun _ => fun
  | [d1, d2, d3] => { results := [.lit (.bool false)], args := [d1, d2, d3] }
  | _ => none }
def ServeTicksWrongFalsely : Prop := serveTicksRow.holds Tryz.pinned (OpenSpec.ofChange serveTicksWrong)

/-- 'brackenkeep.ServeOrder': WHATEVER THE INPUT: true; the input reads as it did. -/
def serveOrderSpec : ChangeSpec := { name := "serveOrder", fn := fun _ => fun
  | [d1, d2, d3] => { results := [.lit (.bool true)], args := [d1, d2, d3] }
  | _ => none }
def serveOrderRow : OpenClaim := { program := "ytffddjdfpggglaagreatdoor", sum := "34cdb533f44f2c99835dd8c0773214efb15be34552d8b499b6b7c6632deb2a08", func := "bracken/brackenkeep.ServeOrder", spec := "serveOrder", inPlace := ["slices.overlaps[bracken/api.Job]", "slices.overlaps[bracken/api.Node]", "slices.overlaps[bracken/api.Lease]"], unfollowed := true, recurses := true, named := ["unicode/utf8.first", "unicode/utf8.acceptRanges"], apart := false, laid := [("unicode/utf8.acceptRanges", laid_unicode_utf8_acceptRanges), ("unicode/utf8.first", laid_unicode_utf8_first)] }
def ServeOrderSaid : Prop := serveOrderRow.holds Tryz.pinned (OpenSpec.ofChange serveOrderSpec)

/-- ITS FALSE NEIGHBOUR: 'it returns false'. Refute it at one input. -/
def serveOrderWrong : ChangeSpec := { name := "serveOrder", fn := fun _ => fun
  | [d1, d2, d3] => { results := [.lit (.bool false)], args := [d1, d2, d3] }
  | _ => none }
def ServeOrderWrongFalsely : Prop := serveOrderRow.holds Tryz.pinned (OpenSpec.ofChange serveOrderWrong)

/-- 'brackenkeep.ServeTold': WHATEVER THE INPUT: true; the input reads as it did. -/
def serveToldSpec : ChangeSpec := { name := "serveTold", fn := fun _ => fun
  | [d1, d2] => { results := [.lit (.bool true)], args := [d1, d2] }
  | _ => none }
def serveToldRow : OpenClaim := { program := "ytffddjdfpggglaagreatdoor", sum := "34cdb533f44f2c99835dd8c0773214efb15be34552d8b499b6b7c6632deb2a08", func := "bracken/brackenkeep.ServeTold", spec := "serveTold", inPlace := ["slices.overlaps[bracken/api.Job]", "slices.overlaps[bracken/api.Node]", "slices.overlaps[bracken/api.Lease]"], unfollowed := true, recurses := true, named := ["unicode/utf8.first", "unicode/utf8.acceptRanges"], apart := false, laid := [("unicode/utf8.acceptRanges", laid_unicode_utf8_acceptRanges), ("unicode/utf8.first", laid_unicode_utf8_first)] }
def ServeToldSaid : Prop := serveToldRow.holds Tryz.pinned (OpenSpec.ofChange serveToldSpec)

/-- ITS FALSE NEIGHBOUR: 'it returns false'. Refute it at one input. -/
def serveToldWrong : ChangeSpec := { name := "serveTold", fn := fun _ => fun
  | [d1, d2] => { results := [.lit (.bool false)], args := [d1, d2] }
  | _ => none }
def ServeToldWrongFalsely : Prop := serveToldRow.holds Tryz.pinned (OpenSpec.ofChange serveToldWrong)

/- THE SECOND FORM. 'bulk': how many values and letters a reading holds, each counted each time it is reached (what is shared counts as often as it is met; a slice's spare places count too). A statement '..UptoSaid' is the law's where the arguments, and the package variables that the reading takes, are together of bulk at most 1048576: NARROWER than '..Said'. Prove '..Said' where nothing that the law and all that it calls make is longer than what came in: it says more and counts as full. Else prove '..UptoSaid'. A law counts once. -/
mutual
def uptoBulk {H : Type} : DataW H → Nat
  | .lit (.string bytes) => bytes.length + 1
  | .lit _ => 1
  | .nil => 1
  | .ptr d => uptoBulk d + 1
  | .slice elems spare => uptoBulkAll elems + uptoBulkAll spare + 1
  | .agg parts => uptoBulkAll parts + 1
  | .iface _ d => uptoBulk d + 1
  | .map entries => uptoBulkEntries entries + 1
  | .held _ => 1
def uptoBulkAll {H : Type} : List (DataW H) → Nat
  | [] => 0
  | d :: r => uptoBulk d + uptoBulkAll r
def uptoBulkEntries {H : Type} : List (Lit × DataW H) → Nat
  | [] => 0
  | x :: r => uptoBulkEntry x + uptoBulkEntries r
def uptoBulkEntry {H : Type} : Lit × DataW H → Nat
  | (.string bytes, d) => bytes.length + uptoBulk d + 1
  | (_, d) => uptoBulk d + 1
 end
def uptoSmall : (H : Type) → List (DataW H) → Bool := fun _ ds => decide (uptoBulkAll ds ≤ 1048576)
def OpenSpec.upto (s : _root_.Go.ChangeSpec) : _root_.Go.OpenSpec := { _root_.Go.OpenSpec.ofChange s with cond := some uptoSmall }

/-- 'brackenkeep.ServeMay', WHERE WHAT IT READS IS OF BULK AT MOST 1048576: true; the input reads as it did. -/
def serveMayUptoRow : OpenClaim := { program := "ytffddjdfpggglaagreatdoor", sum := "34cdb533f44f2c99835dd8c0773214efb15be34552d8b499b6b7c6632deb2a08", func := "bracken/brackenkeep.ServeMay", spec := "serveMay", inPlace := ["slices.overlaps[bracken/api.Job]", "slices.overlaps[bracken/api.Node]", "slices.overlaps[bracken/api.Lease]"], unfollowed := true, recurses := true, named := ["unicode/utf8.first", "unicode/utf8.acceptRanges"], apart := false, laid := [("unicode/utf8.acceptRanges", laid_unicode_utf8_acceptRanges), ("unicode/utf8.first", laid_unicode_utf8_first)], narrowed := true }
def ServeMayUptoSaid : Prop := serveMayUptoRow.holds Tryz.pinned (OpenSpec.upto serveMaySpec)

/-- 'brackenkeep.ServeRefused', WHERE WHAT IT READS IS OF BULK AT MOST 1048576: true; the input reads as it did. -/
def serveRefusedUptoRow : OpenClaim := { program := "ytffddjdfpggglaagreatdoor", sum := "34cdb533f44f2c99835dd8c0773214efb15be34552d8b499b6b7c6632deb2a08", func := "bracken/brackenkeep.ServeRefused", spec := "serveRefused", inPlace := ["slices.overlaps[bracken/api.Job]", "slices.overlaps[bracken/api.Node]", "slices.overlaps[bracken/api.Lease]"], unfollowed := true, recurses := true, named := ["unicode/utf8.first", "unicode/utf8.acceptRanges"], apart := false, laid := [("unicode/utf8.acceptRanges", laid_unicode_utf8_acceptRanges), ("unicode/utf8.first", laid_unicode_utf8_first)], narrowed := true }
def ServeRefusedUptoSaid : Prop := serveRefusedUptoRow.holds Tryz.pinned (OpenSpec.upto serveRefusedSpec)

/-- 'brackenkeep.ServeLeases', WHERE WHAT IT READS IS OF BULK AT MOST 1048576: true; the input reads as it did. -/
def serveLeasesUptoRow : OpenClaim := { program := "ytffddjdfpggglaagreatdoor", sum := "34cdb533f44f2c99835dd8c0773214efb15be34552d8b499b6b7c6632deb2a08", func := "bracken/brackenkeep.ServeLeases", spec := "serveLeases", inPlace := ["slices.overlaps[bracken/api.Job]", "slices.overlaps[bracken/api.Node]", "slices.overlaps[bracken/api.Lease]"], unfollowed := true, recurses := true, named := ["unicode/utf8.first", "unicode/utf8.acceptRanges"], apart := false, laid := [("unicode/utf8.acceptRanges", laid_unicode_utf8_acceptRanges), ("unicode/utf8.first", laid_unicode_utf8_first)], narrowed := true }
def ServeLeasesUptoSaid : Prop := serveLeasesUptoRow.holds Tryz.pinned (OpenSpec.upto serveLeasesSpec)

/-- 'brackenkeep.ServePuts', WHERE WHAT IT READS IS OF BULK AT MOST 1048576: true; the input reads as it did. -/
def servePutsUptoRow : OpenClaim := { program := "ytffddjdfpggglaagreatdoor", sum := "34cdb533f44f2c99835dd8c0773214efb15be34552d8b499b6b7c6632deb2a08", func := "bracken/brackenkeep.ServePuts", spec := "servePuts", inPlace := ["slices.overlaps[bracken/api.Job]", "slices.overlaps[bracken/api.Node]", "slices.overlaps[bracken/api.Lease]"], unfollowed := true, recurses := true, named := ["unicode/utf8.first", "unicode/utf8.acceptRanges"], apart := false, laid := [("unicode/utf8.acceptRanges", laid_unicode_utf8_acceptRanges), ("unicode/utf8.first", laid_unicode_utf8_first)], narrowed := true }
def ServePutsUptoSaid : Prop := servePutsUptoRow.holds Tryz.pinned (OpenSpec.upto servePutsSpec)

/-- 'brackenkeep.ServeGrants', WHERE WHAT IT READS IS OF BULK AT MOST 1048576: true; the input reads as it did. -/
def serveGrantsUptoRow : OpenClaim := { program := "ytffddjdfpggglaagreatdoor", sum := "34cdb533f44f2c99835dd8c0773214efb15be34552d8b499b6b7c6632deb2a08", func := "bracken/brackenkeep.ServeGrants", spec := "serveGrants", inPlace := ["slices.overlaps[bracken/api.Job]", "slices.overlaps[bracken/api.Node]", "slices.overlaps[bracken/api.Lease]"], unfollowed := true, recurses := true, named := ["unicode/utf8.first", "unicode/utf8.acceptRanges"], apart := false, laid := [("unicode/utf8.acceptRanges", laid_unicode_utf8_acceptRanges), ("unicode/utf8.first", laid_unicode_utf8_first)], narrowed := true }
def ServeGrantsUptoSaid : Prop := serveGrantsUptoRow.holds Tryz.pinned (OpenSpec.upto serveGrantsSpec)

/-- 'brackenkeep.OwnMemory', WHERE WHAT IT READS IS OF BULK AT MOST 1048576: true; the input reads as it did. -/
def ownMemoryUptoRow : OpenClaim := { program := "ytffddjdfpggglaagreatdoor", sum := "34cdb533f44f2c99835dd8c0773214efb15be34552d8b499b6b7c6632deb2a08", func := "bracken/brackenkeep.OwnMemory", spec := "ownMemory", inPlace := ["slices.overlaps[bracken/api.Job]", "slices.overlaps[bracken/api.Node]", "slices.overlaps[bracken/api.Lease]"], unfollowed := true, recurses := true, named := ["unicode/utf8.first", "unicode/utf8.acceptRanges"], apart := false, laid := [("unicode/utf8.acceptRanges", laid_unicode_utf8_acceptRanges), ("unicode/utf8.first", laid_unicode_utf8_first)], narrowed := true }
def OwnMemoryUptoSaid : Prop := ownMemoryUptoRow.holds Tryz.pinned (OpenSpec.upto ownMemorySpec)

/-- 'brackenkeep.ServeTicks', WHERE WHAT IT READS IS OF BULK AT MOST 1048576: true; the input reads as it did. -/
def serveTicksUptoRow : OpenClaim := { program := "ytffddjdfpggglaagreatdoor", sum := "34cdb533f44f2c99835dd8c0773214efb15be34552d8b499b6b7c6632deb2a08", func := "bracken/brackenkeep.ServeTicks", spec := "serveTicks", inPlace := ["slices.overlaps[bracken/api.Job]", "slices.overlaps[bracken/api.Node]", "slices.overlaps[bracken/api.Lease]"], unfollowed := true, recurses := true, named := ["unicode/utf8.first", "unicode/utf8.acceptRanges"], apart := false, laid := [("unicode/utf8.acceptRanges", laid_unicode_utf8_acceptRanges), ("unicode/utf8.first", laid_unicode_utf8_first)], narrowed := true }
def ServeTicksUptoSaid : Prop := serveTicksUptoRow.holds Tryz.pinned (OpenSpec.upto serveTicksSpec)

/-- 'brackenkeep.ServeOrder', WHERE WHAT IT READS IS OF BULK AT MOST 1048576: true; the input reads as it did. -/
def serveOrderUptoRow : OpenClaim := { program := "ytffddjdfpggglaagreatdoor", sum := "34cdb533f44f2c99835dd8c0773214efb15be34552d8b499b6b7c6632deb2a08", func := "bracken/brackenkeep.ServeOrder", spec := "serveOrder", inPlace := ["slices.overlaps[bracken/api.Job]", "slices.overlaps[bracken/api.Node]", "slices.overlaps[bracken/api.Lease]"], unfollowed := true, recurses := true, named := ["unicode/utf8.first", "unicode/utf8.acceptRanges"], apart := false, laid := [("unicode/utf8.acceptRanges", laid_unicode_utf8_acceptRanges), ("unicode/utf8.first", laid_unicode_utf8_first)], narrowed := true }
def ServeOrderUptoSaid : Prop := serveOrderUptoRow.holds Tryz.pinned (OpenSpec.upto serveOrderSpec)

/-- 'brackenkeep.ServeTold', WHERE WHAT IT READS IS OF BULK AT MOST 1048576: true; the input reads as it did. -/
def serveToldUptoRow : OpenClaim := { program := "ytffddjdfpggglaagreatdoor", sum := "34cdb533f44f2c99835dd8c0773214efb15be34552d8b499b6b7c6632deb2a08", func := "bracken/brackenkeep.ServeTold", spec := "serveTold", inPlace := ["slices.overlaps[bracken/api.Job]", "slices.overlaps[bracken/api.Node]", "slices.overlaps[bracken/api.Lease]"], unfollowed := true, recurses := true, named := ["unicode/utf8.first", "unicode/utf8.acceptRanges"], apart := false, laid := [("unicode/utf8.acceptRanges", laid_unicode_utf8_acceptRanges), ("unicode/utf8.first", laid_unicode_utf8_first)], narrowed := true }
def ServeToldUptoSaid : Prop := serveToldUptoRow.holds Tryz.pinned (OpenSpec.upto serveToldSpec)

end Rows
end Go.Proofs.YtffddjdfpggglaaGreatDoor
