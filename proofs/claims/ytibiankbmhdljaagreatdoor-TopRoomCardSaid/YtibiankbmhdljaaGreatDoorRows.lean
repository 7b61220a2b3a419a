/-
  NARROWER THAN 'FOR EVERY INPUT', by the rows' own cells (each row's printed sentence says how): HubServes: laid · HubWhole: laid · HubCuts: laid · HubShut: laid · HubQuiet: laid · HubReplies: laid · TopRoom: laid.
  DERIVED. THE GIVEN ROWS OF THIS SEAT. 7 by the template 'for every input the law returns true; each argument reads behind the call as it read before'; 0 by the template 'total and deterministic' (their statements: YtibiankbmhdljaaGreatDoorTotals.lean).
  GIVEN WITH THE SEED: the statements are not yours to turn. If you find one false, say at which input.
  Laid BY PROGRAM, IN A SANDBOX (cutbox-rows.mjs): the forced cells as the released guide's own fill.sh prints them over the translation ae32297bf836780e… (all of the seat's roots in one cut). By AI agents, Wed Nov 11 2026. No macro, syntax, notation, axiom, sorry.
-/
import Derived.Test.YtibiankbmhdljaaGreatDoorChecked
import GoSem.PinnedTables
import GoSem.Claim
import GoSem.ClaimJoined
import GoSem.ClaimMapViews
import Derived.JoinedTies
import Derived.KernelRfl
namespace Go.Proofs.YtibiankbmhdljaaGreatDoor
/- THE CELL 'sum', in the pinned program and in every row, IS THE sha256 OF THE DUMP (.gsa) THAT YtibiankbmhdljaaGreatDoorProg.lean LOADS. Nothing in Lean hashes anything: it is a label: what it is worth is what the hold of that sum in a sandbox is worth. -/
noncomputable def Tryz.pinned : Pinned := { name := "ytibiankbmhdljaagreatdoor", sum := "ae32297bf836780ef40aac0c327e6cd64168b123d972e4a2f968c786b12ab74d", checked := Tryz.checked }
namespace Rows
def none {H : Type} : Left H := { results := [], args := [] }

/- WHAT THE LISTED PACKAGE-LEVEL VARIABLES READ AS WHEN THE CALL BEGINS. Each datum BY PROGRAM (the guide's laid-datum.mjs) off the statement by which the dump's own 'gosem.cut.vars' lays the variable. In a bare row this is a premise. The card (YtibiankbmhdljaaGreatDoorCards.lean) ties it to the program's text. -/
def laid_unicode_utf8_acceptRanges {H : Type} : DataW H := .agg [.agg [.lit (.int .u8 128), .lit (.int .u8 191)], .agg [.lit (.int .u8 160), .lit (.int .u8 191)], .agg [.lit (.int .u8 128), .lit (.int .u8 159)], .agg [.lit (.int .u8 144), .lit (.int .u8 191)], .agg [.lit (.int .u8 128), .lit (.int .u8 143)], .agg [.lit (.int .u8 0), .lit (.int .u8 0)], .agg [.lit (.int .u8 0), .lit (.int .u8 0)], .agg [.lit (.int .u8 0), .lit (.int .u8 0)], .agg [.lit (.int .u8 0), .lit (.int .u8 0)], .agg [.lit (.int .u8 0), .lit (.int .u8 0)], .agg [.lit (.int .u8 0), .lit (.int .u8 0)], .agg [.lit (.int .u8 0), .lit (.int .u8 0)], .agg [.lit (.int .u8 0), .lit (.int .u8 0)], .agg [.lit (.int .u8 0), .lit (.int .u8 0)], .agg [.lit (.int .u8 0), .lit (.int .u8 0)], .agg [.lit (.int .u8 0), .lit (.int .u8 0)]]
/-- One of Go's own tables, pinned by name: the form's constant. -/
def laid_unicode_utf8_first : DataW Unit := Go.Pinned.utf8First

/-- 'brackenkeep.HubServes': WHATEVER THE INPUT: true; the input reads as it did. -/
def hubServesSpec : ChangeSpec := { name := "hubServes", fn := fun _ => fun
  | [d1, d2] => { results := [.lit (.bool true)], args := [d1, d2] }
  | _ => none }
def hubServesRow : OpenClaim := { program := "ytibiankbmhdljaagreatdoor", sum := "ae32297bf836780ef40aac0c327e6cd64168b123d972e4a2f968c786b12ab74d", func := "bracken/brackenkeep.HubServes", spec := "hubServes", inPlace := ["slices.overlaps[bracken/api.Job]", "slices.overlaps[bracken/api.Node]", "slices.overlaps[bracken/api.Lease]"], unfollowed := true, recurses := true, named := ["unicode/utf8.first", "unicode/utf8.acceptRanges"], apart := false, laid := [("unicode/utf8.acceptRanges", laid_unicode_utf8_acceptRanges), ("unicode/utf8.first", laid_unicode_utf8_first)] }
def HubServesSaid : Prop := hubServesRow.holds Tryz.pinned (OpenSpec.ofChange hubServesSpec)

/-- ITS FALSE NEIGHBOUR: 'it returns false'. Refute it at one input. -/
def hubServesWrong : ChangeSpec := { name := "hubServes", fn := fun _ => fun
  | [d1, d2] => { results := [.lit (.bool false)], args := [d1, d2] }
  | _ => none }
def HubServesWrongFalsely : Prop := hubServesRow.holds Tryz.pinned (OpenSpec.ofChange hubServesWrong)

/-- 'brackenkeep.HubWhole': WHATEVER THE INPUT: true; the input reads as it did. -/
def hubWholeSpec : ChangeSpec := { name := "hubWhole", fn := fun _ => fun
  | [d1, d2] => { results := [.lit (.bool true)], args := [d1, d2] }
  | _ => none }
def hubWholeRow : OpenClaim := { program := "ytibiankbmhdljaagreatdoor", sum := "ae32297bf836780ef40aac0c327e6cd64168b123d972e4a2f968c786b12ab74d", func := "bracken/brackenkeep.HubWhole", spec := "hubWhole", inPlace := ["slices.overlaps[bracken/api.Job]", "slices.overlaps[bracken/api.Node]", "slices.overlaps[bracken/api.Lease]"], unfollowed := true, recurses := true, named := ["unicode/utf8.first", "unicode/utf8.acceptRanges"], apart := false, laid := [("unicode/utf8.acceptRanges", laid_unicode_utf8_acceptRanges), ("unicode/utf8.first", laid_unicode_utf8_first)] }
def HubWholeSaid : Prop := hubWholeRow.holds Tryz.pinned (OpenSpec.ofChange hubWholeSpec)

/-- ITS FALSE NEIGHBOUR: 'it returns false'. Refute it at one input. -/
def hubWholeWrong : ChangeSpec := { name := "hubWhole", fn := fun _ => fun
  | [d1, d2] => { results := [.lit (.bool false)], args := [d1, d2] }
  | _ => none }
def HubWholeWrongFalsely : Prop := hubWholeRow.holds Tryz.pinned (OpenSpec.ofChange hubWholeWrong)

/-- 'brackenkeep.HubCuts': WHATEVER THE INPUT: true; the input reads as it did. -/
def hubCutsSpec : ChangeSpec := { name := "hubCuts", fn := fun _ => fun
  | [d1, d2, d3] => { results := [.lit (.bool true)], args := [d1, d2, d3] }
  | _ => none }
def hubCutsRow : OpenClaim := { program := "ytibiankbmhdljaagreatdoor", sum := "ae32297bf836780ef40aac0c327e6cd64168b123d972e4a2f968c786b12ab74d", func := "bracken/brackenkeep.HubCuts", spec := "hubCuts", inPlace := ["slices.overlaps[bracken/api.Job]", "slices.overlaps[bracken/api.Node]", "slices.overlaps[bracken/api.Lease]"], unfollowed := true, recurses := true, named := ["unicode/utf8.first", "unicode/utf8.acceptRanges"], apart := false, laid := [("unicode/utf8.acceptRanges", laid_unicode_utf8_acceptRanges), ("unicode/utf8.first", laid_unicode_utf8_first)] }
def HubCutsSaid : Prop := hubCutsRow.holds Tryz.pinned (OpenSpec.ofChange hubCutsSpec)

/-- ITS FALSE NEIGHBOUR: 'it returns false'. Refute it at one input. -/
def hubCutsWrong : ChangeSpec := { name := "hubCuts", fn := fun _ => fun
  | [d1, d2, d3] => { results := [.lit (.bool false)], args := [d1, d2, d3] }
  | _ => none }
def HubCutsWrongFalsely : Prop := hubCutsRow.holds Tryz.pinned (OpenSpec.ofChange hubCutsWrong)

/-- 'brackenkeep.HubShut': WHATEVER THE INPUT: true; the input reads as it did. -/
def hubShutSpec : ChangeSpec := { name := "hubShut", fn := fun _ => fun
  | [d1, d2, d3] => { results := [.lit (.bool true)], args := [d1, d2, d3] }
  | _ => none }
def hubShutRow : OpenClaim := { program := "ytibiankbmhdljaagreatdoor", sum := "ae32297bf836780ef40aac0c327e6cd64168b123d972e4a2f968c786b12ab74d", func := "bracken/brackenkeep.HubShut", spec := "hubShut", inPlace := ["slices.overlaps[bracken/api.Job]", "slices.overlaps[bracken/api.Node]", "slices.overlaps[bracken/api.Lease]"], unfollowed := true, recurses := true, named := ["unicode/utf8.first", "unicode/utf8.acceptRanges"], apart := false, laid := [("unicode/utf8.acceptRanges", laid_unicode_utf8_acceptRanges), ("unicode/utf8.first", laid_unicode_utf8_first)] }
def HubShutSaid : Prop := hubShutRow.holds Tryz.pinned (OpenSpec.ofChange hubShutSpec)

/-- ITS FALSE NEIGHBOUR: 'it returns false'. Refute it at one input. -/
def hubShutWrong : ChangeSpec := { name := "hubShut", fn := fun _ => fun
  | [d1, d2, d3] => { results := [.lit (.bool false)], args := [d1, d2, d3] }
  | _ => none }
def HubShutWrongFalsely : Prop := hubShutRow.holds Tryz.pinned (OpenSpec.ofChange hubShutWrong)

/-- 'brackenkeep.HubQuiet': WHATEVER THE INPUT: true; the input reads as it did. -/
def hubQuietSpec : ChangeSpec := { name := "hubQuiet", fn := fun _ => fun
  | [d1, d2] => { results := [.lit (.bool true)], args := [d1, d2] }
  | _ => none }
def hubQuietRow : OpenClaim := { program := "ytibiankbmhdljaagreatdoor", sum := "ae32297bf836780ef40aac0c327e6cd64168b123d972e4a2f968c786b12ab74d", func := "bracken/brackenkeep.HubQuiet", spec := "hubQuiet", inPlace := ["slices.overlaps[bracken/api.Job]", "slices.overlaps[bracken/api.Node]", "slices.overlaps[bracken/api.Lease]"], unfollowed := true, recurses := true, named := ["unicode/utf8.first", "unicode/utf8.acceptRanges"], apart := false, laid := [("unicode/utf8.acceptRanges", laid_unicode_utf8_acceptRanges), ("unicode/utf8.first", laid_unicode_utf8_first)] }
def HubQuietSaid : Prop := hubQuietRow.holds Tryz.pinned (OpenSpec.ofChange hubQuietSpec)

/-- ITS FALSE NEIGHBOUR: 'it returns false'. Refute it at one input. -/
def hubQuietWrong : ChangeSpec := { name := "hubQuiet", fn := fun _ => fun
  | [d1, d2] => { results := [.lit (.bool false)], args := [d1, d2] }
  | _ => none }
def HubQuietWrongFalsely : Prop := hubQuietRow.holds Tryz.pinned (OpenSpec.ofChange hubQuietWrong)

/-- 'brackenkeep.HubReplies': WHATEVER THE INPUT: true; the input reads as it did. -/
def hubRepliesSpec : ChangeSpec := { name := "hubReplies", fn := fun _ => fun
  | [d1, d2] => { results := [.lit (.bool true)], args := [d1, d2] }
  | _ => none }
def hubRepliesRow : OpenClaim := { program := "ytibiankbmhdljaagreatdoor", sum := "ae32297bf836780ef40aac0c327e6cd64168b123d972e4a2f968c786b12ab74d", func := "bracken/brackenkeep.HubReplies", spec := "hubReplies", inPlace := ["slices.overlaps[bracken/api.Job]", "slices.overlaps[bracken/api.Node]", "slices.overlaps[bracken/api.Lease]"], unfollowed := true, recurses := true, named := ["unicode/utf8.first", "unicode/utf8.acceptRanges"], apart := false, laid := [("unicode/utf8.acceptRanges", laid_unicode_utf8_acceptRanges), ("unicode/utf8.first", laid_unicode_utf8_first)] }
def HubRepliesSaid : Prop := hubRepliesRow.holds Tryz.pinned (OpenSpec.ofChange hubRepliesSpec)

/-- ITS FALSE NEIGHBOUR: 'it returns false'. Refute it at one input. -/
def hubRepliesWrong : ChangeSpec := { name := "hubReplies", fn := fun _ => fun
  | [d1, d2] => { results := [.lit (.bool false)], args := [d1, d2] }
  | _ => none }
def HubRepliesWrongFalsely : Prop := hubRepliesRow.holds Tryz.pinned (OpenSpec.ofChange hubRepliesWrong)

/-- 'brackentop.TopRoom': WHATEVER THE INPUT: true; the input reads as it did. -/
def topRoomSpec : ChangeSpec := { name := "topRoom", fn := fun _ => fun
  | [d1, d2] => { results := [.lit (.bool true)], args := [d1, d2] }
  | _ => none }
def topRoomRow : OpenClaim := { program := "ytibiankbmhdljaagreatdoor", sum := "ae32297bf836780ef40aac0c327e6cd64168b123d972e4a2f968c786b12ab74d", func := "bracken/brackentop.TopRoom", spec := "topRoom", inPlace := ["slices.overlaps[bracken/api.Job]", "slices.overlaps[bracken/api.Node]", "slices.overlaps[bracken/api.Lease]"], unfollowed := true, recurses := true, named := ["unicode/utf8.first", "unicode/utf8.acceptRanges"], apart := false, laid := [("unicode/utf8.acceptRanges", laid_unicode_utf8_acceptRanges), ("unicode/utf8.first", laid_unicode_utf8_first)] }
def TopRoomSaid : Prop := topRoomRow.holds Tryz.pinned (OpenSpec.ofChange topRoomSpec)

/-- ITS FALSE NEIGHBOUR: 'it returns false'. Refute it at one input. -/
def topRoomWrong : ChangeSpec := { name := "topRoom", fn := fun _ => fun
  | [d1, d2] => { results := [.lit (.bool false)], args := [d1, d2] }
  | _ => none }
def TopRoomWrongFalsely : Prop := topRoomRow.holds Tryz.pinned (OpenSpec.ofChange topRoomWrong)

/- THE SECOND FORM. 'bulk': how many values and letters a reading holds, each counted each time it is reached (what is shared counts as often as it is met; a slice's spare places count too). A statement '..UptoSaid' is the law's where the arguments, and the package variables that the reading takes, are together of bulk at most 1048576: NARROWER than '..Said'. Prove '..Said' where nothing that the law and all that it calls make is longer than what came in: it says more and counts as full. Else prove '..UptoSaid'. A law counts once. -/
mutual
def uptoBulk {H : Type} : DataW H → Nat
  | .lit (.string bytes) => bytes.length + 1
  | .lit _ => 1
  | .nil => 1
  | .ptr d => uptoBulk d + 1
  | .slice elems spare => uptoBulkAll elems + uptoBulkAll spare + 1
  | .agg parts => uptoBulkAll parts + 1
  | .iface _ d => uptoBulk d + 1
  | .map entries => uptoBulkEntries entries + 1
  | .held _ => 1
def uptoBulkAll {H : Type} : List (DataW H) → Nat
  | [] => 0
  | d :: r => uptoBulk d + uptoBulkAll r
def uptoBulkEntries {H : Type} : List (Lit × DataW H) → Nat
  | [] => 0
  | x :: r => uptoBulkEntry x + uptoBulkEntries r
def uptoBulkEntry {H : Type} : Lit × DataW H → Nat
  | (.string bytes, d) => bytes.length + uptoBulk d + 1
  | (_, d) => uptoBulk d + 1
 end
def uptoSmall : (H : Type) → List (DataW H) → Bool := fun _ ds => decide (uptoBulkAll ds ≤ 1048576)
def OpenSpec.upto (s : _root_.Go.ChangeSpec) : _root_.Go.OpenSpec := { _root_.Go.OpenSpec.ofChange s with cond := some uptoSmall }

/-- 'brackenkeep.HubServes', WHERE WHAT IT READS IS OF BULK AT MOST 1048576: true; the input reads as it did. -/
def hubServesUptoRow : OpenClaim := { program := "ytibiankbmhdljaagreatdoor", sum := "ae32297bf836780ef40aac0c327e6cd64168b123d972e4a2f968c786b12ab74d", func := "bracken/brackenkeep.HubServes", spec := "hubServes", inPlace := ["slices.overlaps[bracken/api.Job]", "slices.overlaps[bracken/api.Node]", "slices.overlaps[bracken/api.Lease]"], unfollowed := true, recurses := true, named := ["unicode/utf8.first", "unicode/utf8.acceptRanges"], apart := false, laid := [("unicode/utf8.acceptRanges", laid_unicode_utf8_acceptRanges), ("unicode/utf8.first", laid_unicode_utf8_first)], narrowed := true }
def HubServesUptoSaid : Prop := hubServesUptoRow.holds Tryz.pinned (OpenSpec.upto hubServesSpec)

/-- 'brackenkeep.HubWhole', WHERE WHAT IT READS IS OF BULK AT MOST 1048576: true; the input reads as it did. -/
def hubWholeUptoRow : OpenClaim := { program := "ytibiankbmhdljaagreatdoor", sum := "ae32297bf836780ef40aac0c327e6cd64168b123d972e4a2f968c786b12ab74d", func := "bracken/brackenkeep.HubWhole", spec := "hubWhole", inPlace := ["slices.overlaps[bracken/api.Job]", "slices.overlaps[bracken/api.Node]", "slices.overlaps[bracken/api.Lease]"], unfollowed := true, recurses := true, named := ["unicode/utf8.first", "unicode/utf8.acceptRanges"], apart := false, laid := [("unicode/utf8.acceptRanges", laid_unicode_utf8_acceptRanges), ("unicode/utf8.first", laid_unicode_utf8_first)], narrowed := true }
def HubWholeUptoSaid : Prop := hubWholeUptoRow.holds Tryz.pinned (OpenSpec.upto hubWholeSpec)

/-- 'brackenkeep.HubCuts', WHERE WHAT IT READS IS OF BULK AT MOST 1048576: true; the input reads as it did. -/
def hubCutsUptoRow : OpenClaim := { program := "ytibiankbmhdljaagreatdoor", sum := "ae32297bf836780ef40aac0c327e6cd64168b123d972e4a2f968c786b12ab74d", func := "bracken/brackenkeep.HubCuts", spec := "hubCuts", inPlace := ["slices.overlaps[bracken/api.Job]", "slices.overlaps[bracken/api.Node]", "slices.overlaps[bracken/api.Lease]"], unfollowed := true, recurses := true, named := ["unicode/utf8.first", "unicode/utf8.acceptRanges"], apart := false, laid := [("unicode/utf8.acceptRanges", laid_unicode_utf8_acceptRanges), ("unicode/utf8.first", laid_unicode_utf8_first)], narrowed := true }
def HubCutsUptoSaid : Prop := hubCutsUptoRow.holds Tryz.pinned (OpenSpec.upto hubCutsSpec)

/-- 'brackenkeep.HubShut', WHERE WHAT IT READS IS OF BULK AT MOST 1048576: true; the input reads as it did. -/
def hubShutUptoRow : OpenClaim := { program := "ytibiankbmhdljaagreatdoor", sum := "ae32297bf836780ef40aac0c327e6cd64168b123d972e4a2f968c786b12ab74d", func := "bracken/brackenkeep.HubShut", spec := "hubShut", inPlace := ["slices.overlaps[bracken/api.Job]", "slices.overlaps[bracken/api.Node]", "slices.overlaps[bracken/api.Lease]"], unfollowed := true, recurses := true, named := ["unicode/utf8.first", "unicode/utf8.acceptRanges"], apart := false, laid := [("unicode/utf8.acceptRanges", laid_unicode_utf8_acceptRanges), ("unicode/utf8.first", laid_unicode_utf8_first)], narrowed := true }
def HubShutUptoSaid : Prop := hubShutUptoRow.holds Tryz.pinned (OpenSpec.upto hubShutSpec)

/-- 'brackenkeep.HubQuiet', WHERE WHAT IT READS IS OF BULK AT MOST 1048576: true; the input reads as it did. -/
def hubQuietUptoRow : OpenClaim := { program := "ytibiankbmhdljaagreatdoor", sum := "ae32297bf836780ef40aac0c327e6cd64168b123d972e4a2f968c786b12ab74d", func := "bracken/brackenkeep.HubQuiet", spec := "hubQuiet", inPlace := ["slices.overlaps[bracken/api.Job]", "slices.overlaps[bracken/api.Node]", "slices.overlaps[bracken/api.Lease]"], unfollowed := true, recurses := true, named := ["unicode/utf8.first", "unicode/utf8.acceptRanges"], apart := false, laid := [("unicode/utf8.acceptRanges", laid_unicode_utf8_acceptRanges), ("unicode/utf8.first", laid_unicode_utf8_first)], narrowed := true }
def HubQuietUptoSaid : Prop := hubQuietUptoRow.holds Tryz.pinned (OpenSpec.upto hubQuietSpec)

/-- 'brackenkeep.HubReplies', WHERE WHAT IT READS IS OF BULK AT MOST 1048576: true; the input reads as it did. -/
def hubRepliesUptoRow : OpenClaim := { program := "ytibiankbmhdljaagreatdoor", sum := "ae32297bf836780ef40aac0c327e6cd64168b123d972e4a2f968c786b12ab74d", func := "bracken/brackenkeep.HubReplies", spec := "hubReplies", inPlace := ["slices.overlaps[bracken/api.Job]", "slices.overlaps[bracken/api.Node]", "slices.overlaps[bracken/api.Lease]"], unfollowed := true, recurses := true, named := ["unicode/utf8.first", "unicode/utf8.acceptRanges"], apart := false, laid := [("unicode/utf8.acceptRanges", laid_unicode_utf8_acceptRanges), ("unicode/utf8.first", laid_unicode_utf8_first)], narrowed := true }
def HubRepliesUptoSaid : Prop := hubRepliesUptoRow.holds Tryz.pinned (OpenSpec.upto hubRepliesSpec)

/-- 'brackentop.TopRoom', WHERE WHAT IT READS IS OF BULK AT MOST 1048576: true; the input reads as it did. -/
def topRoomUptoRow : OpenClaim := { program := "ytibiankbmhdljaagreatdoor", sum := "ae32297bf836780ef40aac0c327e6cd64168b123d972e4a2f968c786b12ab74d", func := "bracken/brackentop.TopRoom", spec := "topRoom", inPlace := ["slices.overlaps[bracken/api.Job]", "slices.overlaps[bracken/api.Node]", "slices.overlaps[bracken/api.Lease]"], unfollowed := true, recurses := true, named := ["unicode/utf8.first", "unicode/utf8.acceptRanges"], apart := false, laid := [("unicode/utf8.acceptRanges", laid_unicode_utf8_acceptRanges), ("unicode/utf8.first", laid_unicode_utf8_first)], narrowed := true }
def TopRoomUptoSaid : Prop := topRoomUptoRow.holds Tryz.pinned (OpenSpec.upto topRoomSpec)

end Rows
end Go.Proofs.YtibiankbmhdljaaGreatDoor
