/-
  DERIVED. GIVEN WITH THE SEED: THE CARDS: each row of YtnnfgchhkekkeacGreatDoorRows.lean that lists a variable, with what it lists TIED to the program's text (the seventh form; the later family's looks); each row that meets fmt, with fmt's text TOLD by the authors' own Lean function (tested against real Go, not proved from fmt's source: count such statements apart). THE CARD IS WHAT COUNTS. Prove the row's statement (the work); the ties are given (YtnnfgchhkekkeacGreatDoorTie.lean); close each card by the builder's one call (the guide's Derived/Test/ToyasCard.lean, 'card_holds'). Laid BY PROGRAM, IN A SANDBOX (cutbox-door.mjs). By AI agents, Wed Nov 11 2026. No macro, syntax, notation, axiom, sorry.
-/
import Derived.Test.YtnnfgchhkekkeacGreatDoorRows
import GoSem.ClaimSeven
namespace Go.Proofs.YtnnfgchhkekkeacGreatDoor
namespace Rows

/-- THE TIED CARD OF 'brackentop.TopVersions'. -/
def topVersionsCard : Claim7 := { stood := { row := topVersionsRow, standIns := [], harness := (true, "fcb200bfd95cc179f1e83c063835bd8b29d6fc029ed134f3f7d72a689f4b2091"), looks := false }, kinds := [], alts := [], laidByText := true, laidKinds := [.data, .pinned], laidTests := true, laidLooks := .later }
def TopVersionsCardSaid : Prop := Claim7.holds Tryz.pinned (.plain (OpenSpec.ofChange topVersionsSpec)) topVersionsCard

/-- THE SECOND FORM's CARD OF 'brackentop.TopVersions'. -/
def topVersionsUptoCard : Claim7 := { stood := { row := topVersionsUptoRow, standIns := [], harness := (true, "fcb200bfd95cc179f1e83c063835bd8b29d6fc029ed134f3f7d72a689f4b2091"), looks := false }, kinds := [], alts := [], laidByText := true, laidKinds := [.data, .pinned], laidTests := true, laidLooks := .later }
def TopVersionsUptoCardSaid : Prop := Claim7.holds Tryz.pinned (.plain (OpenSpec.upto topVersionsSpec)) topVersionsUptoCard
end Rows
end Go.Proofs.YtnnfgchhkekkeacGreatDoor
