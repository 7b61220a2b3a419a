/-
  DERIVED. GIVEN WITH THE SEED: THE CARDS: each row of YtibiankbmhdljaaGreatDoorRows.lean that lists a variable, with what it lists TIED to the program's text (the seventh form; the later family's looks); each row that meets fmt, with fmt's text TOLD by the authors' own Lean function (tested against real Go, not proved from fmt's source: count such statements apart). THE CARD IS WHAT COUNTS. Prove the row's statement (the work); the ties are given (YtibiankbmhdljaaGreatDoorTie.lean); close each card by the builder's one call (the guide's Derived/Test/ToyasCard.lean, 'card_holds'). Laid BY PROGRAM, IN A SANDBOX (cutbox-door.mjs). By AI agents, Wed Nov 11 2026. No macro, syntax, notation, axiom, sorry.
-/
import Derived.Test.YtibiankbmhdljaaGreatDoorRows
import GoSem.ClaimSeven
namespace Go.Proofs.YtibiankbmhdljaaGreatDoor
namespace Rows

/-- THE TIED CARD OF 'brackenkeep.HubServes'. -/
def hubServesCard : Claim7 := { stood := { row := hubServesRow, standIns := [], harness := (true, "6813282229f85bc78ab9b97afd8202ea1e74916998d812bafe91ef21947467e3"), looks := false }, kinds := [], alts := [], laidByText := true, laidKinds := [.data, .pinned], laidTests := true, laidLooks := .later }
def HubServesCardSaid : Prop := Claim7.holds Tryz.pinned (.plain (OpenSpec.ofChange hubServesSpec)) hubServesCard

/-- THE TIED CARD OF 'brackenkeep.HubWhole'. -/
def hubWholeCard : Claim7 := { stood := { row := hubWholeRow, standIns := [], harness := (true, "6813282229f85bc78ab9b97afd8202ea1e74916998d812bafe91ef21947467e3"), looks := false }, kinds := [], alts := [], laidByText := true, laidKinds := [.data, .pinned], laidTests := true, laidLooks := .later }
def HubWholeCardSaid : Prop := Claim7.holds Tryz.pinned (.plain (OpenSpec.ofChange hubWholeSpec)) hubWholeCard

/-- THE TIED CARD OF 'brackenkeep.HubCuts'. -/
def hubCutsCard : Claim7 := { stood := { row := hubCutsRow, standIns := [], harness := (true, "6813282229f85bc78ab9b97afd8202ea1e74916998d812bafe91ef21947467e3"), looks := false }, kinds := [], alts := [], laidByText := true, laidKinds := [.data, .pinned], laidTests := true, laidLooks := .later }
def HubCutsCardSaid : Prop := Claim7.holds Tryz.pinned (.plain (OpenSpec.ofChange hubCutsSpec)) hubCutsCard

/-- THE TIED CARD OF 'brackenkeep.HubShut'. -/
def hubShutCard : Claim7 := { stood := { row := hubShutRow, standIns := [], harness := (true, "6813282229f85bc78ab9b97afd8202ea1e74916998d812bafe91ef21947467e3"), looks := false }, kinds := [], alts := [], laidByText := true, laidKinds := [.data, .pinned], laidTests := true, laidLooks := .later }
def HubShutCardSaid : Prop := Claim7.holds Tryz.pinned (.plain (OpenSpec.ofChange hubShutSpec)) hubShutCard

/-- THE TIED CARD OF 'brackenkeep.HubQuiet'. -/
def hubQuietCard : Claim7 := { stood := { row := hubQuietRow, standIns := [], harness := (true, "6813282229f85bc78ab9b97afd8202ea1e74916998d812bafe91ef21947467e3"), looks := false }, kinds := [], alts := [], laidByText := true, laidKinds := [.data, .pinned], laidTests := true, laidLooks := .later }
def HubQuietCardSaid : Prop := Claim7.holds Tryz.pinned (.plain (OpenSpec.ofChange hubQuietSpec)) hubQuietCard

/-- THE TIED CARD OF 'brackenkeep.HubReplies'. -/
def hubRepliesCard : Claim7 := { stood := { row := hubRepliesRow, standIns := [], harness := (true, "6813282229f85bc78ab9b97afd8202ea1e74916998d812bafe91ef21947467e3"), looks := false }, kinds := [], alts := [], laidByText := true, laidKinds := [.data, .pinned], laidTests := true, laidLooks := .later }
def HubRepliesCardSaid : Prop := Claim7.holds Tryz.pinned (.plain (OpenSpec.ofChange hubRepliesSpec)) hubRepliesCard

/-- THE TIED CARD OF 'brackentop.TopRoom'. -/
def topRoomCard : Claim7 := { stood := { row := topRoomRow, standIns := [], harness := (true, "6813282229f85bc78ab9b97afd8202ea1e74916998d812bafe91ef21947467e3"), looks := false }, kinds := [], alts := [], laidByText := true, laidKinds := [.data, .pinned], laidTests := true, laidLooks := .later }
def TopRoomCardSaid : Prop := Claim7.holds Tryz.pinned (.plain (OpenSpec.ofChange topRoomSpec)) topRoomCard

/-- THE SECOND FORM's CARD OF 'brackenkeep.HubServes'. -/
def hubServesUptoCard : Claim7 := { stood := { row := hubServesUptoRow, standIns := [], harness := (true, "6813282229f85bc78ab9b97afd8202ea1e74916998d812bafe91ef21947467e3"), looks := false }, kinds := [], alts := [], laidByText := true, laidKinds := [.data, .pinned], laidTests := true, laidLooks := .later }
def HubServesUptoCardSaid : Prop := Claim7.holds Tryz.pinned (.plain (OpenSpec.upto hubServesSpec)) hubServesUptoCard

/-- THE SECOND FORM's CARD OF 'brackenkeep.HubWhole'. -/
def hubWholeUptoCard : Claim7 := { stood := { row := hubWholeUptoRow, standIns := [], harness := (true, "6813282229f85bc78ab9b97afd8202ea1e74916998d812bafe91ef21947467e3"), looks := false }, kinds := [], alts := [], laidByText := true, laidKinds := [.data, .pinned], laidTests := true, laidLooks := .later }
def HubWholeUptoCardSaid : Prop := Claim7.holds Tryz.pinned (.plain (OpenSpec.upto hubWholeSpec)) hubWholeUptoCard

/-- THE SECOND FORM's CARD OF 'brackenkeep.HubCuts'. -/
def hubCutsUptoCard : Claim7 := { stood := { row := hubCutsUptoRow, standIns := [], harness := (true, "6813282229f85bc78ab9b97afd8202ea1e74916998d812bafe91ef21947467e3"), looks := false }, kinds := [], alts := [], laidByText := true, laidKinds := [.data, .pinned], laidTests := true, laidLooks := .later }
def HubCutsUptoCardSaid : Prop := Claim7.holds Tryz.pinned (.plain (OpenSpec.upto hubCutsSpec)) hubCutsUptoCard

/-- THE SECOND FORM's CARD OF 'brackenkeep.HubShut'. -/
def hubShutUptoCard : Claim7 := { stood := { row := hubShutUptoRow, standIns := [], harness := (true, "6813282229f85bc78ab9b97afd8202ea1e74916998d812bafe91ef21947467e3"), looks := false }, kinds := [], alts := [], laidByText := true, laidKinds := [.data, .pinned], laidTests := true, laidLooks := .later }
def HubShutUptoCardSaid : Prop := Claim7.holds Tryz.pinned (.plain (OpenSpec.upto hubShutSpec)) hubShutUptoCard

/-- THE SECOND FORM's CARD OF 'brackenkeep.HubQuiet'. -/
def hubQuietUptoCard : Claim7 := { stood := { row := hubQuietUptoRow, standIns := [], harness := (true, "6813282229f85bc78ab9b97afd8202ea1e74916998d812bafe91ef21947467e3"), looks := false }, kinds := [], alts := [], laidByText := true, laidKinds := [.data, .pinned], laidTests := true, laidLooks := .later }
def HubQuietUptoCardSaid : Prop := Claim7.holds Tryz.pinned (.plain (OpenSpec.upto hubQuietSpec)) hubQuietUptoCard

/-- THE SECOND FORM's CARD OF 'brackenkeep.HubReplies'. -/
def hubRepliesUptoCard : Claim7 := { stood := { row := hubRepliesUptoRow, standIns := [], harness := (true, "6813282229f85bc78ab9b97afd8202ea1e74916998d812bafe91ef21947467e3"), looks := false }, kinds := [], alts := [], laidByText := true, laidKinds := [.data, .pinned], laidTests := true, laidLooks := .later }
def HubRepliesUptoCardSaid : Prop := Claim7.holds Tryz.pinned (.plain (OpenSpec.upto hubRepliesSpec)) hubRepliesUptoCard

/-- THE SECOND FORM's CARD OF 'brackentop.TopRoom'. -/
def topRoomUptoCard : Claim7 := { stood := { row := topRoomUptoRow, standIns := [], harness := (true, "6813282229f85bc78ab9b97afd8202ea1e74916998d812bafe91ef21947467e3"), looks := false }, kinds := [], alts := [], laidByText := true, laidKinds := [.data, .pinned], laidTests := true, laidLooks := .later }
def TopRoomUptoCardSaid : Prop := Claim7.holds Tryz.pinned (.plain (OpenSpec.upto topRoomSpec)) topRoomUptoCard
end Rows
end Go.Proofs.YtibiankbmhdljaaGreatDoor
