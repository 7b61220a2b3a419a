/-
  DERIVED. GIVEN WITH THE SEED: THE CARDS: each row of YtnmokjgnbcfabaaDoorRows.lean that lists a variable, with what it lists TIED to the program's text (the seventh form; the later family's looks); each row that meets fmt, with fmt's text TOLD by the authors' own Lean function (tested against real Go, not proved from fmt's source: count such statements apart). THE CARD IS WHAT COUNTS. Prove the row's statement (the work); the ties are given (YtnmokjgnbcfabaaDoorTie.lean); close each card by the builder's one call (the guide's Derived/Test/ToyasCard.lean, 'card_holds'). Laid BY PROGRAM, IN A SANDBOX (cutbox-door.mjs). By AI agents, Wed Nov 11 2026. No macro, syntax, notation, axiom, sorry.
-/
import Derived.Test.YtnmokjgnbcfabaaDoorRows
import GoSem.ClaimSeven
namespace Go.Proofs.YtnmokjgnbcfabaaDoor
namespace Rows

/-- THE TIED CARD OF 'brackenkeep.StateLess'. -/
def stateLessCard : Claim7 := { stood := { row := stateLessRow, standIns := [], harness := (true, "3adb1b57f1c0185c79d1ba418c664709be9958f152bea449466ed5cdb23c783e"), looks := false }, kinds := [], alts := [], laidByText := true, laidKinds := [.data, .pinned], laidTests := true, laidLooks := .later }
def StateLessCardSaid : Prop := Claim7.holds Tryd.pinned (.plain (OpenSpec.ofChange stateLessSpec)) stateLessCard

/-- THE TIED CARD OF 'brackenkeep.StateMore'. -/
def stateMoreCard : Claim7 := { stood := { row := stateMoreRow, standIns := [], harness := (true, "3adb1b57f1c0185c79d1ba418c664709be9958f152bea449466ed5cdb23c783e"), looks := false }, kinds := [], alts := [], laidByText := true, laidKinds := [.data, .pinned], laidTests := true, laidLooks := .later }
def StateMoreCardSaid : Prop := Claim7.holds Tryd.pinned (.plain (OpenSpec.ofChange stateMoreSpec)) stateMoreCard

/-- THE TIED CARD OF 'brackenkeep.StateRooms'. -/
def stateRoomsCard : Claim7 := { stood := { row := stateRoomsRow, standIns := [], harness := (true, "3adb1b57f1c0185c79d1ba418c664709be9958f152bea449466ed5cdb23c783e"), looks := false }, kinds := [], alts := [], laidByText := true, laidKinds := [.data, .pinned], laidTests := true, laidLooks := .later }
def StateRoomsCardSaid : Prop := Claim7.holds Tryd.pinned (.plain (OpenSpec.ofChange stateRoomsSpec)) stateRoomsCard

/-- THE TIED CARD OF 'brackenkeep.DeltaLeast'. -/
def deltaLeastCard : Claim7 := { stood := { row := deltaLeastRow, standIns := [], harness := (true, "3adb1b57f1c0185c79d1ba418c664709be9958f152bea449466ed5cdb23c783e"), looks := false }, kinds := [], alts := [], laidByText := true, laidKinds := [.data, .pinned], laidTests := true, laidLooks := .later }
def DeltaLeastCardSaid : Prop := Claim7.holds Tryd.pinned (.plain (OpenSpec.ofChange deltaLeastSpec)) deltaLeastCard

/-- THE TIED CARD OF 'brackenkeep.DeltaNone'. -/
def deltaNoneCard : Claim7 := { stood := { row := deltaNoneRow, standIns := [], harness := (true, "3adb1b57f1c0185c79d1ba418c664709be9958f152bea449466ed5cdb23c783e"), looks := false }, kinds := [], alts := [], laidByText := true, laidKinds := [.data, .pinned], laidTests := true, laidLooks := .later }
def DeltaNoneCardSaid : Prop := Claim7.holds Tryd.pinned (.plain (OpenSpec.ofChange deltaNoneSpec)) deltaNoneCard

/-- THE TIED CARD OF 'brackenkeep.DeltaWire'. -/
def deltaWireCard : Claim7 := { stood := { row := deltaWireRow, standIns := [], harness := (true, "3adb1b57f1c0185c79d1ba418c664709be9958f152bea449466ed5cdb23c783e"), looks := false }, kinds := [], alts := [], laidByText := true, laidKinds := [.data, .pinned], laidTests := true, laidLooks := .later }
def DeltaWireCardSaid : Prop := Claim7.holds Tryd.pinned (.plain (OpenSpec.ofChange deltaWireSpec)) deltaWireCard

/-- THE TIED CARD OF 'brackenkeep.DeltaCut'. -/
def deltaCutCard : Claim7 := { stood := { row := deltaCutRow, standIns := [], harness := (true, "3adb1b57f1c0185c79d1ba418c664709be9958f152bea449466ed5cdb23c783e"), looks := false }, kinds := [], alts := [], laidByText := true, laidKinds := [.data, .pinned], laidTests := true, laidLooks := .later }
def DeltaCutCardSaid : Prop := Claim7.holds Tryd.pinned (.plain (OpenSpec.ofChange deltaCutSpec)) deltaCutCard

/-- THE SECOND FORM's CARD OF 'brackenkeep.StateLess'. -/
def stateLessUptoCard : Claim7 := { stood := { row := stateLessUptoRow, standIns := [], harness := (true, "3adb1b57f1c0185c79d1ba418c664709be9958f152bea449466ed5cdb23c783e"), looks := false }, kinds := [], alts := [], laidByText := true, laidKinds := [.data, .pinned], laidTests := true, laidLooks := .later }
def StateLessUptoCardSaid : Prop := Claim7.holds Tryd.pinned (.plain (OpenSpec.upto stateLessSpec)) stateLessUptoCard

/-- THE SECOND FORM's CARD OF 'brackenkeep.StateMore'. -/
def stateMoreUptoCard : Claim7 := { stood := { row := stateMoreUptoRow, standIns := [], harness := (true, "3adb1b57f1c0185c79d1ba418c664709be9958f152bea449466ed5cdb23c783e"), looks := false }, kinds := [], alts := [], laidByText := true, laidKinds := [.data, .pinned], laidTests := true, laidLooks := .later }
def StateMoreUptoCardSaid : Prop := Claim7.holds Tryd.pinned (.plain (OpenSpec.upto stateMoreSpec)) stateMoreUptoCard

/-- THE SECOND FORM's CARD OF 'brackenkeep.StateRooms'. -/
def stateRoomsUptoCard : Claim7 := { stood := { row := stateRoomsUptoRow, standIns := [], harness := (true, "3adb1b57f1c0185c79d1ba418c664709be9958f152bea449466ed5cdb23c783e"), looks := false }, kinds := [], alts := [], laidByText := true, laidKinds := [.data, .pinned], laidTests := true, laidLooks := .later }
def StateRoomsUptoCardSaid : Prop := Claim7.holds Tryd.pinned (.plain (OpenSpec.upto stateRoomsSpec)) stateRoomsUptoCard

/-- THE SECOND FORM's CARD OF 'brackenkeep.DeltaLeast'. -/
def deltaLeastUptoCard : Claim7 := { stood := { row := deltaLeastUptoRow, standIns := [], harness := (true, "3adb1b57f1c0185c79d1ba418c664709be9958f152bea449466ed5cdb23c783e"), looks := false }, kinds := [], alts := [], laidByText := true, laidKinds := [.data, .pinned], laidTests := true, laidLooks := .later }
def DeltaLeastUptoCardSaid : Prop := Claim7.holds Tryd.pinned (.plain (OpenSpec.upto deltaLeastSpec)) deltaLeastUptoCard

/-- THE SECOND FORM's CARD OF 'brackenkeep.DeltaNone'. -/
def deltaNoneUptoCard : Claim7 := { stood := { row := deltaNoneUptoRow, standIns := [], harness := (true, "3adb1b57f1c0185c79d1ba418c664709be9958f152bea449466ed5cdb23c783e"), looks := false }, kinds := [], alts := [], laidByText := true, laidKinds := [.data, .pinned], laidTests := true, laidLooks := .later }
def DeltaNoneUptoCardSaid : Prop := Claim7.holds Tryd.pinned (.plain (OpenSpec.upto deltaNoneSpec)) deltaNoneUptoCard

/-- THE SECOND FORM's CARD OF 'brackenkeep.DeltaWire'. -/
def deltaWireUptoCard : Claim7 := { stood := { row := deltaWireUptoRow, standIns := [], harness := (true, "3adb1b57f1c0185c79d1ba418c664709be9958f152bea449466ed5cdb23c783e"), looks := false }, kinds := [], alts := [], laidByText := true, laidKinds := [.data, .pinned], laidTests := true, laidLooks := .later }
def DeltaWireUptoCardSaid : Prop := Claim7.holds Tryd.pinned (.plain (OpenSpec.upto deltaWireSpec)) deltaWireUptoCard

/-- THE SECOND FORM's CARD OF 'brackenkeep.DeltaCut'. -/
def deltaCutUptoCard : Claim7 := { stood := { row := deltaCutUptoRow, standIns := [], harness := (true, "3adb1b57f1c0185c79d1ba418c664709be9958f152bea449466ed5cdb23c783e"), looks := false }, kinds := [], alts := [], laidByText := true, laidKinds := [.data, .pinned], laidTests := true, laidLooks := .later }
def DeltaCutUptoCardSaid : Prop := Claim7.holds Tryd.pinned (.plain (OpenSpec.upto deltaCutSpec)) deltaCutUptoCard
end Rows
end Go.Proofs.YtnmokjgnbcfabaaDoor
