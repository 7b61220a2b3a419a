/-
  No cell of these rows narrows 'for every input' (looked for: loops, veiled, ifaces, maps, wideKeys, modest, calm, conditions, laid).
  DERIVED. THE GIVEN ROWS OF THIS SEAT. 12 by the template 'for every input the law returns true; each argument reads behind the call as it read before'; 0 by the template 'total and deterministic' (their statements: YtibhffdimcmcoaaTotals.lean).
  GIVEN WITH THE SEED: the statements are not yours to turn. If you find one false, say at which input.
  Laid BY PROGRAM, IN A SANDBOX (cutbox-rows.mjs): the forced cells as the released guide's own fill.sh prints them over the translation 624fd3861f808653… (all of the seat's roots in one cut). By AI agents, Wed Nov 11 2026. No macro, syntax, notation, axiom, sorry.
-/
import Derived.Test.YtibhffdimcmcoaaChecked
import GoSem.Claim
import GoSem.ClaimJoined
import GoSem.ClaimMapViews
import Derived.JoinedTies
import Derived.KernelRfl
namespace Go.Proofs.Ytibhffdimcmcoaa
/- THE CELL 'sum', in the pinned program and in every row, IS THE sha256 OF THE DUMP (.gsa) THAT YtibhffdimcmcoaaProg.lean LOADS. Nothing in Lean hashes anything: it is a label: what it is worth is what the hold of that sum in a sandbox is worth. -/
noncomputable def Try.pinned : Pinned := { name := "ytibhffdimcmcoaa", sum := "624fd3861f808653d1154f576f1cd12d9099f0d23eec4f38cc9fca7da5a84782", checked := Try.checked }
namespace Rows
def none {H : Type} : Left H := { results := [], args := [] }

/-- 'brackenkeep.ZigOrder': WHATEVER THE INPUT: true; the input reads as it did. -/
def zigOrderSpec : ChangeSpec := { name := "zigOrder", fn := fun _ => fun
  | [d1, d2] => { results := [.lit (.bool true)], args := [d1, d2] }
  | _ => none }
def zigOrderRow : OpenClaim := { program := "ytibhffdimcmcoaa", sum := "624fd3861f808653d1154f576f1cd12d9099f0d23eec4f38cc9fca7da5a84782", func := "bracken/brackenkeep.ZigOrder", spec := "zigOrder", apart := false }
def ZigOrderSaid : Prop := zigOrderRow.holds Try.pinned (OpenSpec.ofChange zigOrderSpec)

/-- ITS FALSE NEIGHBOUR: 'it returns false'. Refute it at one input. -/
def zigOrderWrong : ChangeSpec := { name := "zigOrder", fn := fun _ => fun
  | [d1, d2] => { results := [.lit (.bool false)], args := [d1, d2] }
  | _ => none }
def ZigOrderWrongFalsely : Prop := zigOrderRow.holds Try.pinned (OpenSpec.ofChange zigOrderWrong)

/-- 'brackenkeep.ZigBack': WHATEVER THE INPUT: true; the input reads as it did. -/
def zigBackSpec : ChangeSpec := { name := "zigBack", fn := fun _ => fun
  | [d1, d2] => { results := [.lit (.bool true)], args := [d1, d2] }
  | _ => none }
def zigBackRow : OpenClaim := { program := "ytibhffdimcmcoaa", sum := "624fd3861f808653d1154f576f1cd12d9099f0d23eec4f38cc9fca7da5a84782", func := "bracken/brackenkeep.ZigBack", spec := "zigBack", apart := false }
def ZigBackSaid : Prop := zigBackRow.holds Try.pinned (OpenSpec.ofChange zigBackSpec)

/-- ITS FALSE NEIGHBOUR: 'it returns false'. Refute it at one input. -/
def zigBackWrong : ChangeSpec := { name := "zigBack", fn := fun _ => fun
  | [d1, d2] => { results := [.lit (.bool false)], args := [d1, d2] }
  | _ => none }
def ZigBackWrongFalsely : Prop := zigBackRow.holds Try.pinned (OpenSpec.ofChange zigBackWrong)

/-- 'brackenkeep.NumberBack': WHATEVER THE INPUT: true; the input reads as it did. -/
def numberBackSpec : ChangeSpec := { name := "numberBack", fn := fun _ => fun
  | [d1, d2] => { results := [.lit (.bool true)], args := [d1, d2] }
  | _ => none }
def numberBackRow : OpenClaim := { program := "ytibhffdimcmcoaa", sum := "624fd3861f808653d1154f576f1cd12d9099f0d23eec4f38cc9fca7da5a84782", func := "bracken/brackenkeep.NumberBack", spec := "numberBack", apart := false }
def NumberBackSaid : Prop := numberBackRow.holds Try.pinned (OpenSpec.ofChange numberBackSpec)

/-- ITS FALSE NEIGHBOUR: 'it returns false'. Refute it at one input. -/
def numberBackWrong : ChangeSpec := { name := "numberBack", fn := fun _ => fun
  | [d1, d2] => { results := [.lit (.bool false)], args := [d1, d2] }
  | _ => none }
def NumberBackWrongFalsely : Prop := numberBackRow.holds Try.pinned (OpenSpec.ofChange numberBackWrong)

/-- 'brackenkeep.NumberOne': WHATEVER THE INPUT: true; the input reads as it did. -/
def numberOneSpec : ChangeSpec := { name := "numberOne", fn := fun _ => fun
  | [d] => { results := [.lit (.bool true)], args := [d] }
  | _ => none }
def numberOneRow : OpenClaim := { program := "ytibhffdimcmcoaa", sum := "624fd3861f808653d1154f576f1cd12d9099f0d23eec4f38cc9fca7da5a84782", func := "bracken/brackenkeep.NumberOne", spec := "numberOne", apart := false }
def NumberOneSaid : Prop := numberOneRow.holds Try.pinned (OpenSpec.ofChange numberOneSpec)

/-- ITS FALSE NEIGHBOUR: 'it returns false'. Refute it at one input. -/
def numberOneWrong : ChangeSpec := { name := "numberOne", fn := fun _ => fun
  | [d] => { results := [.lit (.bool false)], args := [d] }
  | _ => none }
def NumberOneWrongFalsely : Prop := numberOneRow.holds Try.pinned (OpenSpec.ofChange numberOneWrong)

/-- 'brackenkeep.NumberOrder': WHATEVER THE INPUT: true; the input reads as it did. -/
def numberOrderSpec : ChangeSpec := { name := "numberOrder", fn := fun _ => fun
  | [d1, d2] => { results := [.lit (.bool true)], args := [d1, d2] }
  | _ => none }
def numberOrderRow : OpenClaim := { program := "ytibhffdimcmcoaa", sum := "624fd3861f808653d1154f576f1cd12d9099f0d23eec4f38cc9fca7da5a84782", func := "bracken/brackenkeep.NumberOrder", spec := "numberOrder", apart := false }
def NumberOrderSaid : Prop := numberOrderRow.holds Try.pinned (OpenSpec.ofChange numberOrderSpec)

/-- ITS FALSE NEIGHBOUR: 'it returns false'. Refute it at one input. -/
def numberOrderWrong : ChangeSpec := { name := "numberOrder", fn := fun _ => fun
  | [d1, d2] => { results := [.lit (.bool false)], args := [d1, d2] }
  | _ => none }
def NumberOrderWrongFalsely : Prop := numberOrderRow.holds Try.pinned (OpenSpec.ofChange numberOrderWrong)

/-- 'brackenkeep.NumberSizes': WHATEVER THE INPUT: true; the input reads as it did. -/
def numberSizesSpec : ChangeSpec := { name := "numberSizes", fn := fun _ => fun
  | [d] => { results := [.lit (.bool true)], args := [d] }
  | _ => none }
def numberSizesRow : OpenClaim := { program := "ytibhffdimcmcoaa", sum := "624fd3861f808653d1154f576f1cd12d9099f0d23eec4f38cc9fca7da5a84782", func := "bracken/brackenkeep.NumberSizes", spec := "numberSizes", apart := false }
def NumberSizesSaid : Prop := numberSizesRow.holds Try.pinned (OpenSpec.ofChange numberSizesSpec)

/-- ITS FALSE NEIGHBOUR: 'it returns false'. Refute it at one input. -/
def numberSizesWrong : ChangeSpec := { name := "numberSizes", fn := fun _ => fun
  | [d] => { results := [.lit (.bool false)], args := [d] }
  | _ => none }
def NumberSizesWrongFalsely : Prop := numberSizesRow.holds Try.pinned (OpenSpec.ofChange numberSizesWrong)

/-- 'brackenkeep.SumTurned': WHATEVER THE INPUT: true; the input reads as it did. -/
def sumTurnedSpec : ChangeSpec := { name := "sumTurned", fn := fun _ => fun
  | [d1, d2, d3] => { results := [.lit (.bool true)], args := [d1, d2, d3] }
  | _ => none }
def sumTurnedRow : OpenClaim := { program := "ytibhffdimcmcoaa", sum := "624fd3861f808653d1154f576f1cd12d9099f0d23eec4f38cc9fca7da5a84782", func := "bracken/brackenkeep.SumTurned", spec := "sumTurned", apart := false }
def SumTurnedSaid : Prop := sumTurnedRow.holds Try.pinned (OpenSpec.ofChange sumTurnedSpec)

/-- ITS FALSE NEIGHBOUR: 'it returns false'. Refute it at one input. -/
def sumTurnedWrong : ChangeSpec := { name := "sumTurned", fn := fun _ => fun
  | [d1, d2, d3] => { results := [.lit (.bool false)], args := [d1, d2, d3] }
  | _ => none }
def SumTurnedWrongFalsely : Prop := sumTurnedRow.holds Try.pinned (OpenSpec.ofChange sumTurnedWrong)

/-- 'brackenkeep.SumMixes': WHATEVER THE INPUT: true; the input reads as it did. -/
def sumMixesSpec : ChangeSpec := { name := "sumMixes", fn := fun _ => fun
  | [d1, d2, d3] => { results := [.lit (.bool true)], args := [d1, d2, d3] }
  | _ => none }
def sumMixesRow : OpenClaim := { program := "ytibhffdimcmcoaa", sum := "624fd3861f808653d1154f576f1cd12d9099f0d23eec4f38cc9fca7da5a84782", func := "bracken/brackenkeep.SumMixes", spec := "sumMixes", apart := false }
def SumMixesSaid : Prop := sumMixesRow.holds Try.pinned (OpenSpec.ofChange sumMixesSpec)

/-- ITS FALSE NEIGHBOUR: 'it returns false'. Refute it at one input. -/
def sumMixesWrong : ChangeSpec := { name := "sumMixes", fn := fun _ => fun
  | [d1, d2, d3] => { results := [.lit (.bool false)], args := [d1, d2, d3] }
  | _ => none }
def SumMixesWrongFalsely : Prop := sumMixesRow.holds Try.pinned (OpenSpec.ofChange sumMixesWrong)

/-- 'brackenkeep.SumGoesOn': WHATEVER THE INPUT: true; the input reads as it did. -/
def sumGoesOnSpec : ChangeSpec := { name := "sumGoesOn", fn := fun _ => fun
  | [d1, d2, d3] => { results := [.lit (.bool true)], args := [d1, d2, d3] }
  | _ => none }
def sumGoesOnRow : OpenClaim := { program := "ytibhffdimcmcoaa", sum := "624fd3861f808653d1154f576f1cd12d9099f0d23eec4f38cc9fca7da5a84782", func := "bracken/brackenkeep.SumGoesOn", spec := "sumGoesOn", apart := false }
def SumGoesOnSaid : Prop := sumGoesOnRow.holds Try.pinned (OpenSpec.ofChange sumGoesOnSpec)

/-- ITS FALSE NEIGHBOUR: 'it returns false'. Refute it at one input. -/
def sumGoesOnWrong : ChangeSpec := { name := "sumGoesOn", fn := fun _ => fun
  | [d1, d2, d3] => { results := [.lit (.bool false)], args := [d1, d2, d3] }
  | _ => none }
def SumGoesOnWrongFalsely : Prop := sumGoesOnRow.holds Try.pinned (OpenSpec.ofChange sumGoesOnWrong)

/-- 'brackenkeep.FrameBack': WHATEVER THE INPUT: true; the input reads as it did. -/
def frameBackSpec : ChangeSpec := { name := "frameBack", fn := fun _ => fun
  | [d1, d2] => { results := [.lit (.bool true)], args := [d1, d2] }
  | _ => none }
def frameBackRow : OpenClaim := { program := "ytibhffdimcmcoaa", sum := "624fd3861f808653d1154f576f1cd12d9099f0d23eec4f38cc9fca7da5a84782", func := "bracken/brackenkeep.FrameBack", spec := "frameBack", unfollowed := true, recurses := true, apart := false }
def FrameBackSaid : Prop := frameBackRow.holds Try.pinned (OpenSpec.ofChange frameBackSpec)

/-- ITS FALSE NEIGHBOUR: 'it returns false'. Refute it at one input. -/
def frameBackWrong : ChangeSpec := { name := "frameBack", fn := fun _ => fun
  | [d1, d2] => { results := [.lit (.bool false)], args := [d1, d2] }
  | _ => none }
def FrameBackWrongFalsely : Prop := frameBackRow.holds Try.pinned (OpenSpec.ofChange frameBackWrong)

/-- 'brackenkeep.FrameShort': WHATEVER THE INPUT: true; the input reads as it did. -/
def frameShortSpec : ChangeSpec := { name := "frameShort", fn := fun _ => fun
  | [d1, d2] => { results := [.lit (.bool true)], args := [d1, d2] }
  | _ => none }
def frameShortRow : OpenClaim := { program := "ytibhffdimcmcoaa", sum := "624fd3861f808653d1154f576f1cd12d9099f0d23eec4f38cc9fca7da5a84782", func := "bracken/brackenkeep.FrameShort", spec := "frameShort", unfollowed := true, recurses := true, apart := false }
def FrameShortSaid : Prop := frameShortRow.holds Try.pinned (OpenSpec.ofChange frameShortSpec)

/-- ITS FALSE NEIGHBOUR: 'it returns false'. Refute it at one input. -/
def frameShortWrong : ChangeSpec := { name := "frameShort", fn := fun _ => fun
  | [d1, d2] => { results := [.lit (.bool false)], args := [d1, d2] }
  | _ => none }
def FrameShortWrongFalsely : Prop := frameShortRow.holds Try.pinned (OpenSpec.ofChange frameShortWrong)

/-- 'brackenkeep.FrameTurned': WHATEVER THE INPUT: true; the input reads as it did. -/
def frameTurnedSpec : ChangeSpec := { name := "frameTurned", fn := fun _ => fun
  | [d1, d2, d3] => { results := [.lit (.bool true)], args := [d1, d2, d3] }
  | _ => none }
def frameTurnedRow : OpenClaim := { program := "ytibhffdimcmcoaa", sum := "624fd3861f808653d1154f576f1cd12d9099f0d23eec4f38cc9fca7da5a84782", func := "bracken/brackenkeep.FrameTurned", spec := "frameTurned", unfollowed := true, recurses := true, apart := false }
def FrameTurnedSaid : Prop := frameTurnedRow.holds Try.pinned (OpenSpec.ofChange frameTurnedSpec)

/-- ITS FALSE NEIGHBOUR: 'it returns false'. Refute it at one input. -/
def frameTurnedWrong : ChangeSpec := { name := "frameTurned", fn := fun _ => fun
  | [d1, d2, d3] => { results := [.lit (.bool false)], args := [d1, d2, d3] }
  | _ => none }
def FrameTurnedWrongFalsely : Prop := frameTurnedRow.holds Try.pinned (OpenSpec.ofChange frameTurnedWrong)

/- THE SECOND FORM. 'bulk': how many values and letters a reading holds, each counted each time it is reached (what is shared counts as often as it is met; a slice's spare places count too). A statement '..UptoSaid' is the law's where the arguments, and the package variables that the reading takes, are together of bulk at most 1048576: NARROWER than '..Said'. Prove '..Said' where nothing that the law and all that it calls make is longer than what came in: it says more and counts as full. Else prove '..UptoSaid'. A law counts once. -/
mutual
def uptoBulk {H : Type} : DataW H → Nat
  | .lit (.string bytes) => bytes.length + 1
  | .lit _ => 1
  | .nil => 1
  | .ptr d => uptoBulk d + 1
  | .slice elems spare => uptoBulkAll elems + uptoBulkAll spare + 1
  | .agg parts => uptoBulkAll parts + 1
  | .iface _ d => uptoBulk d + 1
  | .map entries => uptoBulkEntries entries + 1
  | .held _ => 1
def uptoBulkAll {H : Type} : List (DataW H) → Nat
  | [] => 0
  | d :: r => uptoBulk d + uptoBulkAll r
def uptoBulkEntries {H : Type} : List (Lit × DataW H) → Nat
  | [] => 0
  | x :: r => uptoBulkEntry x + uptoBulkEntries r
def uptoBulkEntry {H : Type} : Lit × DataW H → Nat
  | (.string bytes, d) => bytes.length + uptoBulk d + 1
  | (_, d) => uptoBulk d + 1
 end
def uptoSmall : (H : Type) → List (DataW H) → Bool := fun _ ds => decide (uptoBulkAll ds ≤ 1048576)
def OpenSpec.upto (s : _root_.Go.ChangeSpec) : _root_.Go.OpenSpec := { _root_.Go.OpenSpec.ofChange s with cond := some uptoSmall }

/-- 'brackenkeep.ZigOrder', WHERE WHAT IT READS IS OF BULK AT MOST 1048576: true; the input reads as it did. -/
def zigOrderUptoRow : OpenClaim := { program := "ytibhffdimcmcoaa", sum := "624fd3861f808653d1154f576f1cd12d9099f0d23eec4f38cc9fca7da5a84782", func := "bracken/brackenkeep.ZigOrder", spec := "zigOrder", apart := false, narrowed := true }
def ZigOrderUptoSaid : Prop := zigOrderUptoRow.holds Try.pinned (OpenSpec.upto zigOrderSpec)

/-- 'brackenkeep.ZigBack', WHERE WHAT IT READS IS OF BULK AT MOST 1048576: true; the input reads as it did. -/
def zigBackUptoRow : OpenClaim := { program := "ytibhffdimcmcoaa", sum := "624fd3861f808653d1154f576f1cd12d9099f0d23eec4f38cc9fca7da5a84782", func := "bracken/brackenkeep.ZigBack", spec := "zigBack", apart := false, narrowed := true }
def ZigBackUptoSaid : Prop := zigBackUptoRow.holds Try.pinned (OpenSpec.upto zigBackSpec)

/-- 'brackenkeep.NumberBack', WHERE WHAT IT READS IS OF BULK AT MOST 1048576: true; the input reads as it did. -/
def numberBackUptoRow : OpenClaim := { program := "ytibhffdimcmcoaa", sum := "624fd3861f808653d1154f576f1cd12d9099f0d23eec4f38cc9fca7da5a84782", func := "bracken/brackenkeep.NumberBack", spec := "numberBack", apart := false, narrowed := true }
def NumberBackUptoSaid : Prop := numberBackUptoRow.holds Try.pinned (OpenSpec.upto numberBackSpec)

/-- 'brackenkeep.NumberOne', WHERE WHAT IT READS IS OF BULK AT MOST 1048576: true; the input reads as it did. -/
def numberOneUptoRow : OpenClaim := { program := "ytibhffdimcmcoaa", sum := "624fd3861f808653d1154f576f1cd12d9099f0d23eec4f38cc9fca7da5a84782", func := "bracken/brackenkeep.NumberOne", spec := "numberOne", apart := false, narrowed := true }
def NumberOneUptoSaid : Prop := numberOneUptoRow.holds Try.pinned (OpenSpec.upto numberOneSpec)

/-- 'brackenkeep.NumberOrder', WHERE WHAT IT READS IS OF BULK AT MOST 1048576: true; the input reads as it did. -/
def numberOrderUptoRow : OpenClaim := { program := "ytibhffdimcmcoaa", sum := "624fd3861f808653d1154f576f1cd12d9099f0d23eec4f38cc9fca7da5a84782", func := "bracken/brackenkeep.NumberOrder", spec := "numberOrder", apart := false, narrowed := true }
def NumberOrderUptoSaid : Prop := numberOrderUptoRow.holds Try.pinned (OpenSpec.upto numberOrderSpec)

/-- 'brackenkeep.NumberSizes', WHERE WHAT IT READS IS OF BULK AT MOST 1048576: true; the input reads as it did. -/
def numberSizesUptoRow : OpenClaim := { program := "ytibhffdimcmcoaa", sum := "624fd3861f808653d1154f576f1cd12d9099f0d23eec4f38cc9fca7da5a84782", func := "bracken/brackenkeep.NumberSizes", spec := "numberSizes", apart := false, narrowed := true }
def NumberSizesUptoSaid : Prop := numberSizesUptoRow.holds Try.pinned (OpenSpec.upto numberSizesSpec)

/-- 'brackenkeep.SumTurned', WHERE WHAT IT READS IS OF BULK AT MOST 1048576: true; the input reads as it did. -/
def sumTurnedUptoRow : OpenClaim := { program := "ytibhffdimcmcoaa", sum := "624fd3861f808653d1154f576f1cd12d9099f0d23eec4f38cc9fca7da5a84782", func := "bracken/brackenkeep.SumTurned", spec := "sumTurned", apart := false, narrowed := true }
def SumTurnedUptoSaid : Prop := sumTurnedUptoRow.holds Try.pinned (OpenSpec.upto sumTurnedSpec)

/-- 'brackenkeep.SumMixes', WHERE WHAT IT READS IS OF BULK AT MOST 1048576: true; the input reads as it did. -/
def sumMixesUptoRow : OpenClaim := { program := "ytibhffdimcmcoaa", sum := "624fd3861f808653d1154f576f1cd12d9099f0d23eec4f38cc9fca7da5a84782", func := "bracken/brackenkeep.SumMixes", spec := "sumMixes", apart := false, narrowed := true }
def SumMixesUptoSaid : Prop := sumMixesUptoRow.holds Try.pinned (OpenSpec.upto sumMixesSpec)

/-- 'brackenkeep.SumGoesOn', WHERE WHAT IT READS IS OF BULK AT MOST 1048576: true; the input reads as it did. -/
def sumGoesOnUptoRow : OpenClaim := { program := "ytibhffdimcmcoaa", sum := "624fd3861f808653d1154f576f1cd12d9099f0d23eec4f38cc9fca7da5a84782", func := "bracken/brackenkeep.SumGoesOn", spec := "sumGoesOn", apart := false, narrowed := true }
def SumGoesOnUptoSaid : Prop := sumGoesOnUptoRow.holds Try.pinned (OpenSpec.upto sumGoesOnSpec)

/-- 'brackenkeep.FrameBack', WHERE WHAT IT READS IS OF BULK AT MOST 1048576: true; the input reads as it did. -/
def frameBackUptoRow : OpenClaim := { program := "ytibhffdimcmcoaa", sum := "624fd3861f808653d1154f576f1cd12d9099f0d23eec4f38cc9fca7da5a84782", func := "bracken/brackenkeep.FrameBack", spec := "frameBack", unfollowed := true, recurses := true, apart := false, narrowed := true }
def FrameBackUptoSaid : Prop := frameBackUptoRow.holds Try.pinned (OpenSpec.upto frameBackSpec)

/-- 'brackenkeep.FrameShort', WHERE WHAT IT READS IS OF BULK AT MOST 1048576: true; the input reads as it did. -/
def frameShortUptoRow : OpenClaim := { program := "ytibhffdimcmcoaa", sum := "624fd3861f808653d1154f576f1cd12d9099f0d23eec4f38cc9fca7da5a84782", func := "bracken/brackenkeep.FrameShort", spec := "frameShort", unfollowed := true, recurses := true, apart := false, narrowed := true }
def FrameShortUptoSaid : Prop := frameShortUptoRow.holds Try.pinned (OpenSpec.upto frameShortSpec)

/-- 'brackenkeep.FrameTurned', WHERE WHAT IT READS IS OF BULK AT MOST 1048576: true; the input reads as it did. -/
def frameTurnedUptoRow : OpenClaim := { program := "ytibhffdimcmcoaa", sum := "624fd3861f808653d1154f576f1cd12d9099f0d23eec4f38cc9fca7da5a84782", func := "bracken/brackenkeep.FrameTurned", spec := "frameTurned", unfollowed := true, recurses := true, apart := false, narrowed := true }
def FrameTurnedUptoSaid : Prop := frameTurnedUptoRow.holds Try.pinned (OpenSpec.upto frameTurnedSpec)

end Rows
end Go.Proofs.Ytibhffdimcmcoaa
