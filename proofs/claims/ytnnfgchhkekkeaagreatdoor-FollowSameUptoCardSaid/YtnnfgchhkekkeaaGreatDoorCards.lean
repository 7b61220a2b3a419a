/-
  DERIVED. GIVEN WITH THE SEED: THE CARDS: each row of YtnnfgchhkekkeaaGreatDoorRows.lean that lists a variable, with what it lists TIED to the program's text (the seventh form; the later family's looks); each row that meets fmt, with fmt's text TOLD by the authors' own Lean function (tested against real Go, not proved from fmt's source: count such statements apart). THE CARD IS WHAT COUNTS. Prove the row's statement (the work); the ties are given (YtnnfgchhkekkeaaGreatDoorTie.lean); close each card by the builder's one call (the guide's Derived/Test/ToyasCard.lean, 'card_holds'). Laid BY PROGRAM, IN A SANDBOX (cutbox-door.mjs). By AI agents, Wed Nov 11 2026. No macro, syntax, notation, axiom, sorry.
-/
import Derived.Test.YtnnfgchhkekkeaaGreatDoorRows
import GoSem.ClaimSeven
namespace Go.Proofs.YtnnfgchhkekkeaaGreatDoor
namespace Rows

/-- THE TIED CARD OF 'brackenkeep.FollowSame'. -/
def followSameCard : Claim7 := { stood := { row := followSameRow, standIns := [], harness := (true, "8e0e04ae898476df400db12220c770d9f280a64514303051db606e2473609b1a"), looks := false }, kinds := [], alts := [], laidByText := true, laidKinds := [.data, .pinned], laidTests := true, laidLooks := .later }
def FollowSameCardSaid : Prop := Claim7.holds Tryz.pinned (.plain (OpenSpec.ofChange followSameSpec)) followSameCard

/-- THE SECOND FORM's CARD OF 'brackenkeep.FollowSame'. -/
def followSameUptoCard : Claim7 := { stood := { row := followSameUptoRow, standIns := [], harness := (true, "8e0e04ae898476df400db12220c770d9f280a64514303051db606e2473609b1a"), looks := false }, kinds := [], alts := [], laidByText := true, laidKinds := [.data, .pinned], laidTests := true, laidLooks := .later }
def FollowSameUptoCardSaid : Prop := Claim7.holds Tryz.pinned (.plain (OpenSpec.upto followSameSpec)) followSameUptoCard
end Rows
end Go.Proofs.YtnnfgchhkekkeaaGreatDoor
