/-
  DERIVED. GIVEN WITH THE SEED: THE CARDS: each row of YtknmnhleicakhaaGreatDoorRows.lean that lists a variable, with what it lists TIED to the program's text (the seventh form; the later family's looks); each row that meets fmt, with fmt's text TOLD by the authors' own Lean function (tested against real Go, not proved from fmt's source: count such statements apart). THE CARD IS WHAT COUNTS. Prove the row's statement (the work); the ties are given (YtknmnhleicakhaaGreatDoorTie.lean); close each card by the builder's one call (the guide's Derived/Test/ToyasCard.lean, 'card_holds'). Laid BY PROGRAM, IN A SANDBOX (cutbox-door.mjs). By AI agents, Wed Nov 11 2026. No macro, syntax, notation, axiom, sorry.
-/
import Derived.Test.YtknmnhleicakhaaGreatDoorRows
import GoSem.ClaimSeven
namespace Go.Proofs.YtknmnhleicakhaaGreatDoor
namespace Rows

/-- THE TIED CARD OF 'brackentop.TopFollowed'. -/
def topFollowedCard : Claim7 := { stood := { row := topFollowedRow, standIns := [], harness := (true, "a4980e98141f28e38232bff51b04f8468949dcf215084ae4862b1a22ce0fb446"), looks := false }, kinds := [], alts := [], laidByText := true, laidKinds := [.data, .pinned], laidTests := true, laidLooks := .later }
def TopFollowedCardSaid : Prop := Claim7.holds Tryz.pinned (.plain (OpenSpec.ofChange topFollowedSpec)) topFollowedCard

/-- THE SECOND FORM's CARD OF 'brackentop.TopFollowed'. -/
def topFollowedUptoCard : Claim7 := { stood := { row := topFollowedUptoRow, standIns := [], harness := (true, "a4980e98141f28e38232bff51b04f8468949dcf215084ae4862b1a22ce0fb446"), looks := false }, kinds := [], alts := [], laidByText := true, laidKinds := [.data, .pinned], laidTests := true, laidLooks := .later }
def TopFollowedUptoCardSaid : Prop := Claim7.holds Tryz.pinned (.plain (OpenSpec.upto topFollowedSpec)) topFollowedUptoCard
end Rows
end Go.Proofs.YtknmnhleicakhaaGreatDoor
