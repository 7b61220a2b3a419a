/-
  DERIVED. GIVEN WITH THE SEED: THE CARDS: each row of YtffddjdfpggglaaGreatDoorRows.lean that lists a variable, with what it lists TIED to the program's text (the seventh form; the later family's looks); each row that meets fmt, with fmt's text TOLD by the authors' own Lean function (tested against real Go, not proved from fmt's source: count such statements apart). THE CARD IS WHAT COUNTS. Prove the row's statement (the work); the ties are given (YtffddjdfpggglaaGreatDoorTie.lean); close each card by the builder's one call (the guide's Derived/Test/ToyasCard.lean, 'card_holds'). Laid BY PROGRAM, IN A SANDBOX (cutbox-door.mjs). By AI agents, Wed Nov 11 2026. No macro, syntax, notation, axiom, sorry.
-/
import Derived.Test.YtffddjdfpggglaaGreatDoorRows
import GoSem.ClaimSeven
namespace Go.Proofs.YtffddjdfpggglaaGreatDoor
namespace Rows

/-- THE TIED CARD OF 'brackenkeep.ServeMay'. -/
def serveMayCard : Claim7 := { stood := { row := serveMayRow, standIns := [], harness := (true, "ca9eb844e50d74b8c171edd8e319cee22a776c99ce3a8fc4b4ffd16766afb67f"), looks := false }, kinds := [], alts := [], laidByText := true, laidKinds := [.data, .pinned], laidTests := true, laidLooks := .later }
def ServeMayCardSaid : Prop := Claim7.holds Tryz.pinned (.plain (OpenSpec.ofChange serveMaySpec)) serveMayCard

/-- THE TIED CARD OF 'brackenkeep.ServeRefused'. -/
def serveRefusedCard : Claim7 := { stood := { row := serveRefusedRow, standIns := [], harness := (true, "ca9eb844e50d74b8c171edd8e319cee22a776c99ce3a8fc4b4ffd16766afb67f"), looks := false }, kinds := [], alts := [], laidByText := true, laidKinds := [.data, .pinned], laidTests := true, laidLooks := .later }
def ServeRefusedCardSaid : Prop := Claim7.holds Tryz.pinned (.plain (OpenSpec.ofChange serveRefusedSpec)) serveRefusedCard

/-- THE TIED CARD OF 'brackenkeep.ServeLeases'. -/
def serveLeasesCard : Claim7 := { stood := { row := serveLeasesRow, standIns := [], harness := (true, "ca9eb844e50d74b8c171edd8e319cee22a776c99ce3a8fc4b4ffd16766afb67f"), looks := false }, kinds := [], alts := [], laidByText := true, laidKinds := [.data, .pinned], laidTests := true, laidLooks := .later }
def ServeLeasesCardSaid : Prop := Claim7.holds Tryz.pinned (.plain (OpenSpec.ofChange serveLeasesSpec)) serveLeasesCard

/-- THE TIED CARD OF 'brackenkeep.ServePuts'. -/
def servePutsCard : Claim7 := { stood := { row := servePutsRow, standIns := [], harness := (true, "ca9eb844e50d74b8c171edd8e319cee22a776c99ce3a8fc4b4ffd16766afb67f"), looks := false }, kinds := [], alts := [], laidByText := true, laidKinds := [.data, .pinned], laidTests := true, laidLooks := .later }
def ServePutsCardSaid : Prop := Claim7.holds Tryz.pinned (.plain (OpenSpec.ofChange servePutsSpec)) servePutsCard

/-- THE TIED CARD OF 'brackenkeep.ServeGrants'. -/
def serveGrantsCard : Claim7 := { stood := { row := serveGrantsRow, standIns := [], harness := (true, "ca9eb844e50d74b8c171edd8e319cee22a776c99ce3a8fc4b4ffd16766afb67f"), looks := false }, kinds := [], alts := [], laidByText := true, laidKinds := [.data, .pinned], laidTests := true, laidLooks := .later }
def ServeGrantsCardSaid : Prop := Claim7.holds Tryz.pinned (.plain (OpenSpec.ofChange serveGrantsSpec)) serveGrantsCard

/-- THE TIED CARD OF 'brackenkeep.OwnMemory'. -/
def ownMemoryCard : Claim7 := { stood := { row := ownMemoryRow, standIns := [], harness := (true, "ca9eb844e50d74b8c171edd8e319cee22a776c99ce3a8fc4b4ffd16766afb67f"), looks := false }, kinds := [], alts := [], laidByText := true, laidKinds := [.data, .pinned], laidTests := true, laidLooks := .later }
def OwnMemoryCardSaid : Prop := Claim7.holds Tryz.pinned (.plain (OpenSpec.ofChange ownMemorySpec)) ownMemoryCard

/-- THE TIED CARD OF 'brackenkeep.ServeTicks'. -/
def serveTicksCard : Claim7 := { stood := { row := serveTicksRow, standIns := [], harness := (true, "ca9eb844e50d74b8c171edd8e319cee22a776c99ce3a8fc4b4ffd16766afb67f"), looks := false }, kinds := [], alts := [], laidByText := true, laidKinds := [.data, .pinned], laidTests := true, laidLooks := .later }
def ServeTicksCardSaid : Prop := Claim7.holds Tryz.pinned (.plain (OpenSpec.ofChange serveTicksSpec)) serveTicksCard

/-- THE TIED CARD OF 'brackenkeep.ServeOrder'. -/
def serveOrderCard : Claim7 := { stood := { row := serveOrderRow, standIns := [], harness := (true, "ca9eb844e50d74b8c171edd8e319cee22a776c99ce3a8fc4b4ffd16766afb67f"), looks := false }, kinds := [], alts := [], laidByText := true, laidKinds := [.data, .pinned], laidTests := true, laidLooks := .later }
def ServeOrderCardSaid : Prop := Claim7.holds Tryz.pinned (.plain (OpenSpec.ofChange serveOrderSpec)) serveOrderCard

/-- THE TIED CARD OF 'brackenkeep.ServeTold'. -/
def serveToldCard : Claim7 := { stood := { row := serveToldRow, standIns := [], harness := (true, "ca9eb844e50d74b8c171edd8e319cee22a776c99ce3a8fc4b4ffd16766afb67f"), looks := false }, kinds := [], alts := [], laidByText := true, laidKinds := [.data, .pinned], laidTests := true, laidLooks := .later }
def ServeToldCardSaid : Prop := Claim7.holds Tryz.pinned (.plain (OpenSpec.ofChange serveToldSpec)) serveToldCard

/-- THE SECOND FORM's CARD OF 'brackenkeep.ServeMay'. -/
def serveMayUptoCard : Claim7 := { stood := { row := serveMayUptoRow, standIns := [], harness := (true, "ca9eb844e50d74b8c171edd8e319cee22a776c99ce3a8fc4b4ffd16766afb67f"), looks := false }, kinds := [], alts := [], laidByText := true, laidKinds := [.data, .pinned], laidTests := true, laidLooks := .later }
def ServeMayUptoCardSaid : Prop := Claim7.holds Tryz.pinned (.plain (OpenSpec.upto serveMaySpec)) serveMayUptoCard

/-- THE SECOND FORM's CARD OF 'brackenkeep.ServeRefused'. -/
def serveRefusedUptoCard : Claim7 := { stood := { row := serveRefusedUptoRow, standIns := [], harness := (true, "ca9eb844e50d74b8c171edd8e319cee22a776c99ce3a8fc4b4ffd16766afb67f"), looks := false }, kinds := [], alts := [], laidByText := true, laidKinds := [.data, .pinned], laidTests := true, laidLooks := .later }
def ServeRefusedUptoCardSaid : Prop := Claim7.holds Tryz.pinned (.plain (OpenSpec.upto serveRefusedSpec)) serveRefusedUptoCard

/-- THE SECOND FORM's CARD OF 'brackenkeep.ServeLeases'. -/
def serveLeasesUptoCard : Claim7 := { stood := { row := serveLeasesUptoRow, standIns := [], harness := (true, "ca9eb844e50d74b8c171edd8e319cee22a776c99ce3a8fc4b4ffd16766afb67f"), looks := false }, kinds := [], alts := [], laidByText := true, laidKinds := [.data, .pinned], laidTests := true, laidLooks := .later }
def ServeLeasesUptoCardSaid : Prop := Claim7.holds Tryz.pinned (.plain (OpenSpec.upto serveLeasesSpec)) serveLeasesUptoCard

/-- THE SECOND FORM's CARD OF 'brackenkeep.ServePuts'. -/
def servePutsUptoCard : Claim7 := { stood := { row := servePutsUptoRow, standIns := [], harness := (true, "ca9eb844e50d74b8c171edd8e319cee22a776c99ce3a8fc4b4ffd16766afb67f"), looks := false }, kinds := [], alts := [], laidByText := true, laidKinds := [.data, .pinned], laidTests := true, laidLooks := .later }
def ServePutsUptoCardSaid : Prop := Claim7.holds Tryz.pinned (.plain (OpenSpec.upto servePutsSpec)) servePutsUptoCard

/-- THE SECOND FORM's CARD OF 'brackenkeep.ServeGrants'. -/
def serveGrantsUptoCard : Claim7 := { stood := { row := serveGrantsUptoRow, standIns := [], harness := (true, "ca9eb844e50d74b8c171edd8e319cee22a776c99ce3a8fc4b4ffd16766afb67f"), looks := false }, kinds := [], alts := [], laidByText := true, laidKinds := [.data, .pinned], laidTests := true, laidLooks := .later }
def ServeGrantsUptoCardSaid : Prop := Claim7.holds Tryz.pinned (.plain (OpenSpec.upto serveGrantsSpec)) serveGrantsUptoCard

/-- THE SECOND FORM's CARD OF 'brackenkeep.OwnMemory'. -/
def ownMemoryUptoCard : Claim7 := { stood := { row := ownMemoryUptoRow, standIns := [], harness := (true, "ca9eb844e50d74b8c171edd8e319cee22a776c99ce3a8fc4b4ffd16766afb67f"), looks := false }, kinds := [], alts := [], laidByText := true, laidKinds := [.data, .pinned], laidTests := true, laidLooks := .later }
def OwnMemoryUptoCardSaid : Prop := Claim7.holds Tryz.pinned (.plain (OpenSpec.upto ownMemorySpec)) ownMemoryUptoCard

/-- THE SECOND FORM's CARD OF 'brackenkeep.ServeTicks'. -/
def serveTicksUptoCard : Claim7 := { stood := { row := serveTicksUptoRow, standIns := [], harness := (true, "ca9eb844e50d74b8c171edd8e319cee22a776c99ce3a8fc4b4ffd16766afb67f"), looks := false }, kinds := [], alts := [], laidByText := true, laidKinds := [.data, .pinned], laidTests := true, laidLooks := .later }
def ServeTicksUptoCardSaid : Prop := Claim7.holds Tryz.pinned (.plain (OpenSpec.upto serveTicksSpec)) serveTicksUptoCard

/-- THE SECOND FORM's CARD OF 'brackenkeep.ServeOrder'. -/
def serveOrderUptoCard : Claim7 := { stood := { row := serveOrderUptoRow, standIns := [], harness := (true, "ca9eb844e50d74b8c171edd8e319cee22a776c99ce3a8fc4b4ffd16766afb67f"), looks := false }, kinds := [], alts := [], laidByText := true, laidKinds := [.data, .pinned], laidTests := true, laidLooks := .later }
def ServeOrderUptoCardSaid : Prop := Claim7.holds Tryz.pinned (.plain (OpenSpec.upto serveOrderSpec)) serveOrderUptoCard

/-- THE SECOND FORM's CARD OF 'brackenkeep.ServeTold'. -/
def serveToldUptoCard : Claim7 := { stood := { row := serveToldUptoRow, standIns := [], harness := (true, "ca9eb844e50d74b8c171edd8e319cee22a776c99ce3a8fc4b4ffd16766afb67f"), looks := false }, kinds := [], alts := [], laidByText := true, laidKinds := [.data, .pinned], laidTests := true, laidLooks := .later }
def ServeToldUptoCardSaid : Prop := Claim7.holds Tryz.pinned (.plain (OpenSpec.upto serveToldSpec)) serveToldUptoCard
end Rows
end Go.Proofs.YtffddjdfpggglaaGreatDoor
