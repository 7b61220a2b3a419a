/-
  DERIVED. GIVEN WITH THE SEED: THE CARDS: each row of YtaioadbenigdpaaGreatDoorRows.lean that lists a variable, with what it lists TIED to the program's text (the seventh form; the later family's looks); each row that meets fmt, with fmt's text TOLD by the authors' own Lean function (tested against real Go, not proved from fmt's source: count such statements apart). THE CARD IS WHAT COUNTS. Prove the row's statement (the work); the ties are given (YtaioadbenigdpaaGreatDoorTie.lean); close each card by the builder's one call (the guide's Derived/Test/ToyasCard.lean, 'card_holds'). Laid BY PROGRAM, IN A SANDBOX (cutbox-door.mjs). By AI agents, Wed Nov 11 2026. No macro, syntax, notation, axiom, sorry.
-/
import Derived.Test.YtaioadbenigdpaaGreatDoorRows
import GoSem.ClaimSeven
namespace Go.Proofs.YtaioadbenigdpaaGreatDoor
namespace Rows

/-- THE TIED CARD OF 'brackenkeep.OwnMemory'. -/
def ownMemoryCard : Claim7 := { stood := { row := ownMemoryRow, standIns := [], harness := (true, "116282a954e5eb2d187d762bd440bbd98a1eeced5f45442fd9df21a08d656c58"), looks := false }, kinds := [], alts := [], laidByText := true, laidKinds := [.data, .pinned], laidTests := true, laidLooks := .later }
def OwnMemoryCardSaid : Prop := Claim7.holds Tryz.pinned (.plain (OpenSpec.ofChange ownMemorySpec)) ownMemoryCard

/-- THE TIED CARD OF 'brackenkeep.ServeTold'. -/
def serveToldCard : Claim7 := { stood := { row := serveToldRow, standIns := [], harness := (true, "116282a954e5eb2d187d762bd440bbd98a1eeced5f45442fd9df21a08d656c58"), looks := false }, kinds := [], alts := [], laidByText := true, laidKinds := [.data, .pinned], laidTests := true, laidLooks := .later }
def ServeToldCardSaid : Prop := Claim7.holds Tryz.pinned (.plain (OpenSpec.ofChange serveToldSpec)) serveToldCard

/-- THE SECOND FORM's CARD OF 'brackenkeep.OwnMemory'. -/
def ownMemoryUptoCard : Claim7 := { stood := { row := ownMemoryUptoRow, standIns := [], harness := (true, "116282a954e5eb2d187d762bd440bbd98a1eeced5f45442fd9df21a08d656c58"), looks := false }, kinds := [], alts := [], laidByText := true, laidKinds := [.data, .pinned], laidTests := true, laidLooks := .later }
def OwnMemoryUptoCardSaid : Prop := Claim7.holds Tryz.pinned (.plain (OpenSpec.upto ownMemorySpec)) ownMemoryUptoCard

/-- THE SECOND FORM's CARD OF 'brackenkeep.ServeTold'. -/
def serveToldUptoCard : Claim7 := { stood := { row := serveToldUptoRow, standIns := [], harness := (true, "116282a954e5eb2d187d762bd440bbd98a1eeced5f45442fd9df21a08d656c58"), looks := false }, kinds := [], alts := [], laidByText := true, laidKinds := [.data, .pinned], laidTests := true, laidLooks := .later }
def ServeToldUptoCardSaid : Prop := Claim7.holds Tryz.pinned (.plain (OpenSpec.upto serveToldSpec)) serveToldUptoCard
end Rows
end Go.Proofs.YtaioadbenigdpaaGreatDoor
