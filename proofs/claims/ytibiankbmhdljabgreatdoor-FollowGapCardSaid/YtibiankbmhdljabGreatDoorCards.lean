/-
  DERIVED. GIVEN WITH THE SEED: THE CARDS: each row of YtibiankbmhdljabGreatDoorRows.lean that lists a variable, with what it lists TIED to the program's text (the seventh form; the later family's looks); each row that meets fmt, with fmt's text TOLD by the authors' own Lean function (tested against real Go, not proved from fmt's source: count such statements apart). THE CARD IS WHAT COUNTS. Prove the row's statement (the work); the ties are given (YtibiankbmhdljabGreatDoorTie.lean); close each card by the builder's one call (the guide's Derived/Test/ToyasCard.lean, 'card_holds'). Laid BY PROGRAM, IN A SANDBOX (cutbox-door.mjs). By AI agents, Wed Nov 11 2026. No macro, syntax, notation, axiom, sorry.
-/
import Derived.Test.YtibiankbmhdljabGreatDoorRows
import GoSem.ClaimSeven
namespace Go.Proofs.YtibiankbmhdljabGreatDoor
namespace Rows

/-- THE TIED CARD OF 'brackenkeep.FollowCuts'. -/
def followCutsCard : Claim7 := { stood := { row := followCutsRow, standIns := [], harness := (true, "4a4641e61ab3f372c454c4b1716e9260428d85db7600e2581f08ee8ad3a66f78"), looks := false }, kinds := [], alts := [], laidByText := true, laidKinds := [.data, .pinned], laidTests := true, laidLooks := .later }
def FollowCutsCardSaid : Prop := Claim7.holds Tryz.pinned (.plain (OpenSpec.ofChange followCutsSpec)) followCutsCard

/-- THE TIED CARD OF 'brackenkeep.FollowWhole'. -/
def followWholeCard : Claim7 := { stood := { row := followWholeRow, standIns := [], harness := (true, "4a4641e61ab3f372c454c4b1716e9260428d85db7600e2581f08ee8ad3a66f78"), looks := false }, kinds := [], alts := [], laidByText := true, laidKinds := [.data, .pinned], laidTests := true, laidLooks := .later }
def FollowWholeCardSaid : Prop := Claim7.holds Tryz.pinned (.plain (OpenSpec.ofChange followWholeSpec)) followWholeCard

/-- THE TIED CARD OF 'brackenkeep.FollowNone'. -/
def followNoneCard : Claim7 := { stood := { row := followNoneRow, standIns := [], harness := (true, "4a4641e61ab3f372c454c4b1716e9260428d85db7600e2581f08ee8ad3a66f78"), looks := false }, kinds := [], alts := [], laidByText := true, laidKinds := [.data, .pinned], laidTests := true, laidLooks := .later }
def FollowNoneCardSaid : Prop := Claim7.holds Tryz.pinned (.plain (OpenSpec.ofChange followNoneSpec)) followNoneCard

/-- THE TIED CARD OF 'brackenkeep.FollowGap'. -/
def followGapCard : Claim7 := { stood := { row := followGapRow, standIns := [], harness := (true, "4a4641e61ab3f372c454c4b1716e9260428d85db7600e2581f08ee8ad3a66f78"), looks := false }, kinds := [], alts := [], laidByText := true, laidKinds := [.data, .pinned], laidTests := true, laidLooks := .later }
def FollowGapCardSaid : Prop := Claim7.holds Tryz.pinned (.plain (OpenSpec.ofChange followGapSpec)) followGapCard

/-- THE SECOND FORM's CARD OF 'brackenkeep.FollowCuts'. -/
def followCutsUptoCard : Claim7 := { stood := { row := followCutsUptoRow, standIns := [], harness := (true, "4a4641e61ab3f372c454c4b1716e9260428d85db7600e2581f08ee8ad3a66f78"), looks := false }, kinds := [], alts := [], laidByText := true, laidKinds := [.data, .pinned], laidTests := true, laidLooks := .later }
def FollowCutsUptoCardSaid : Prop := Claim7.holds Tryz.pinned (.plain (OpenSpec.upto followCutsSpec)) followCutsUptoCard

/-- THE SECOND FORM's CARD OF 'brackenkeep.FollowWhole'. -/
def followWholeUptoCard : Claim7 := { stood := { row := followWholeUptoRow, standIns := [], harness := (true, "4a4641e61ab3f372c454c4b1716e9260428d85db7600e2581f08ee8ad3a66f78"), looks := false }, kinds := [], alts := [], laidByText := true, laidKinds := [.data, .pinned], laidTests := true, laidLooks := .later }
def FollowWholeUptoCardSaid : Prop := Claim7.holds Tryz.pinned (.plain (OpenSpec.upto followWholeSpec)) followWholeUptoCard

/-- THE SECOND FORM's CARD OF 'brackenkeep.FollowNone'. -/
def followNoneUptoCard : Claim7 := { stood := { row := followNoneUptoRow, standIns := [], harness := (true, "4a4641e61ab3f372c454c4b1716e9260428d85db7600e2581f08ee8ad3a66f78"), looks := false }, kinds := [], alts := [], laidByText := true, laidKinds := [.data, .pinned], laidTests := true, laidLooks := .later }
def FollowNoneUptoCardSaid : Prop := Claim7.holds Tryz.pinned (.plain (OpenSpec.upto followNoneSpec)) followNoneUptoCard

/-- THE SECOND FORM's CARD OF 'brackenkeep.FollowGap'. -/
def followGapUptoCard : Claim7 := { stood := { row := followGapUptoRow, standIns := [], harness := (true, "4a4641e61ab3f372c454c4b1716e9260428d85db7600e2581f08ee8ad3a66f78"), looks := false }, kinds := [], alts := [], laidByText := true, laidKinds := [.data, .pinned], laidTests := true, laidLooks := .later }
def FollowGapUptoCardSaid : Prop := Claim7.holds Tryz.pinned (.plain (OpenSpec.upto followGapSpec)) followGapUptoCard
end Rows
end Go.Proofs.YtibiankbmhdljabGreatDoor
