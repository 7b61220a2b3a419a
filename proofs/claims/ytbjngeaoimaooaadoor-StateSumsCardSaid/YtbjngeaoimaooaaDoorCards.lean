/-
  DERIVED. GIVEN WITH THE SEED: THE CARDS: each row of YtbjngeaoimaooaaDoorRows.lean that lists a variable, with what it lists TIED to the program's text (the seventh form; the later family's looks); each row that meets fmt, with fmt's text TOLD by the authors' own Lean function (tested against real Go, not proved from fmt's source: count such statements apart). THE CARD IS WHAT COUNTS. Prove the row's statement (the work); the ties are given (YtbjngeaoimaooaaDoorTie.lean); close each card by the builder's one call (the guide's Derived/Test/ToyasCard.lean, 'card_holds'). Laid BY PROGRAM, IN A SANDBOX (cutbox-door.mjs). By AI agents, Wed Nov 11 2026. No macro, syntax, notation, axiom, sorry.
-/
import Derived.Test.YtbjngeaoimaooaaDoorRows
import GoSem.ClaimSeven
namespace Go.Proofs.YtbjngeaoimaooaaDoor
namespace Rows

/-- THE TIED CARD OF 'brackenkeep.TextBack'. -/
def textBackCard : Claim7 := { stood := { row := textBackRow, standIns := [], harness := (true, "75801731e14f838ecc58dfb053046ce88f34f61ec355748eb50b2a7d1dc53231"), looks := false }, kinds := [], alts := [], laidByText := true, laidKinds := [.data, .pinned], laidTests := true, laidLooks := .later }
def TextBackCardSaid : Prop := Claim7.holds Tryd.pinned (.plain (OpenSpec.ofChange textBackSpec)) textBackCard

/-- THE TIED CARD OF 'brackenkeep.StateLess'. -/
def stateLessCard : Claim7 := { stood := { row := stateLessRow, standIns := [], harness := (true, "75801731e14f838ecc58dfb053046ce88f34f61ec355748eb50b2a7d1dc53231"), looks := false }, kinds := [], alts := [], laidByText := true, laidKinds := [.data, .pinned], laidTests := true, laidLooks := .later }
def StateLessCardSaid : Prop := Claim7.holds Tryd.pinned (.plain (OpenSpec.ofChange stateLessSpec)) stateLessCard

/-- THE TIED CARD OF 'brackenkeep.StateSums'. -/
def stateSumsCard : Claim7 := { stood := { row := stateSumsRow, standIns := [], harness := (true, "75801731e14f838ecc58dfb053046ce88f34f61ec355748eb50b2a7d1dc53231"), looks := false }, kinds := [], alts := [], laidByText := true, laidKinds := [.data, .pinned], laidTests := true, laidLooks := .later }
def StateSumsCardSaid : Prop := Claim7.holds Tryd.pinned (.plain (OpenSpec.ofChange stateSumsSpec)) stateSumsCard

/-- THE TIED CARD OF 'brackenkeep.StateMore'. -/
def stateMoreCard : Claim7 := { stood := { row := stateMoreRow, standIns := [], harness := (true, "75801731e14f838ecc58dfb053046ce88f34f61ec355748eb50b2a7d1dc53231"), looks := false }, kinds := [], alts := [], laidByText := true, laidKinds := [.data, .pinned], laidTests := true, laidLooks := .later }
def StateMoreCardSaid : Prop := Claim7.holds Tryd.pinned (.plain (OpenSpec.ofChange stateMoreSpec)) stateMoreCard

/-- THE TIED CARD OF 'brackenkeep.StateRooms'. -/
def stateRoomsCard : Claim7 := { stood := { row := stateRoomsRow, standIns := [], harness := (true, "75801731e14f838ecc58dfb053046ce88f34f61ec355748eb50b2a7d1dc53231"), looks := false }, kinds := [], alts := [], laidByText := true, laidKinds := [.data, .pinned], laidTests := true, laidLooks := .later }
def StateRoomsCardSaid : Prop := Claim7.holds Tryd.pinned (.plain (OpenSpec.ofChange stateRoomsSpec)) stateRoomsCard

/-- THE TIED CARD OF 'brackenkeep.StateFit'. -/
def stateFitCard : Claim7 := { stood := { row := stateFitRow, standIns := [], harness := (true, "75801731e14f838ecc58dfb053046ce88f34f61ec355748eb50b2a7d1dc53231"), looks := false }, kinds := [], alts := [], laidByText := true, laidKinds := [.data, .pinned], laidTests := true, laidLooks := .later }
def StateFitCardSaid : Prop := Claim7.holds Tryd.pinned (.plain (OpenSpec.ofChange stateFitSpec)) stateFitCard

/-- THE TIED CARD OF 'brackenkeep.UpSteps'. -/
def upStepsCard : Claim7 := { stood := { row := upStepsRow, standIns := [], harness := (true, "75801731e14f838ecc58dfb053046ce88f34f61ec355748eb50b2a7d1dc53231"), looks := false }, kinds := [], alts := [], laidByText := true, laidKinds := [.data, .pinned], laidTests := true, laidLooks := .later }
def UpStepsCardSaid : Prop := Claim7.holds Tryd.pinned (.plain (OpenSpec.ofChange upStepsSpec)) upStepsCard

/-- THE TIED CARD OF 'brackenkeep.UpKeeps'. -/
def upKeepsCard : Claim7 := { stood := { row := upKeepsRow, standIns := [], harness := (true, "75801731e14f838ecc58dfb053046ce88f34f61ec355748eb50b2a7d1dc53231"), looks := false }, kinds := [], alts := [], laidByText := true, laidKinds := [.data, .pinned], laidTests := true, laidLooks := .later }
def UpKeepsCardSaid : Prop := Claim7.holds Tryd.pinned (.plain (OpenSpec.ofChange upKeepsSpec)) upKeepsCard

/-- THE SECOND FORM's CARD OF 'brackenkeep.TextBack'. -/
def textBackUptoCard : Claim7 := { stood := { row := textBackUptoRow, standIns := [], harness := (true, "75801731e14f838ecc58dfb053046ce88f34f61ec355748eb50b2a7d1dc53231"), looks := false }, kinds := [], alts := [], laidByText := true, laidKinds := [.data, .pinned], laidTests := true, laidLooks := .later }
def TextBackUptoCardSaid : Prop := Claim7.holds Tryd.pinned (.plain (OpenSpec.upto textBackSpec)) textBackUptoCard

/-- THE SECOND FORM's CARD OF 'brackenkeep.StateLess'. -/
def stateLessUptoCard : Claim7 := { stood := { row := stateLessUptoRow, standIns := [], harness := (true, "75801731e14f838ecc58dfb053046ce88f34f61ec355748eb50b2a7d1dc53231"), looks := false }, kinds := [], alts := [], laidByText := true, laidKinds := [.data, .pinned], laidTests := true, laidLooks := .later }
def StateLessUptoCardSaid : Prop := Claim7.holds Tryd.pinned (.plain (OpenSpec.upto stateLessSpec)) stateLessUptoCard

/-- THE SECOND FORM's CARD OF 'brackenkeep.StateSums'. -/
def stateSumsUptoCard : Claim7 := { stood := { row := stateSumsUptoRow, standIns := [], harness := (true, "75801731e14f838ecc58dfb053046ce88f34f61ec355748eb50b2a7d1dc53231"), looks := false }, kinds := [], alts := [], laidByText := true, laidKinds := [.data, .pinned], laidTests := true, laidLooks := .later }
def StateSumsUptoCardSaid : Prop := Claim7.holds Tryd.pinned (.plain (OpenSpec.upto stateSumsSpec)) stateSumsUptoCard

/-- THE SECOND FORM's CARD OF 'brackenkeep.StateMore'. -/
def stateMoreUptoCard : Claim7 := { stood := { row := stateMoreUptoRow, standIns := [], harness := (true, "75801731e14f838ecc58dfb053046ce88f34f61ec355748eb50b2a7d1dc53231"), looks := false }, kinds := [], alts := [], laidByText := true, laidKinds := [.data, .pinned], laidTests := true, laidLooks := .later }
def StateMoreUptoCardSaid : Prop := Claim7.holds Tryd.pinned (.plain (OpenSpec.upto stateMoreSpec)) stateMoreUptoCard

/-- THE SECOND FORM's CARD OF 'brackenkeep.StateRooms'. -/
def stateRoomsUptoCard : Claim7 := { stood := { row := stateRoomsUptoRow, standIns := [], harness := (true, "75801731e14f838ecc58dfb053046ce88f34f61ec355748eb50b2a7d1dc53231"), looks := false }, kinds := [], alts := [], laidByText := true, laidKinds := [.data, .pinned], laidTests := true, laidLooks := .later }
def StateRoomsUptoCardSaid : Prop := Claim7.holds Tryd.pinned (.plain (OpenSpec.upto stateRoomsSpec)) stateRoomsUptoCard

/-- THE SECOND FORM's CARD OF 'brackenkeep.StateFit'. -/
def stateFitUptoCard : Claim7 := { stood := { row := stateFitUptoRow, standIns := [], harness := (true, "75801731e14f838ecc58dfb053046ce88f34f61ec355748eb50b2a7d1dc53231"), looks := false }, kinds := [], alts := [], laidByText := true, laidKinds := [.data, .pinned], laidTests := true, laidLooks := .later }
def StateFitUptoCardSaid : Prop := Claim7.holds Tryd.pinned (.plain (OpenSpec.upto stateFitSpec)) stateFitUptoCard

/-- THE SECOND FORM's CARD OF 'brackenkeep.UpSteps'. -/
def upStepsUptoCard : Claim7 := { stood := { row := upStepsUptoRow, standIns := [], harness := (true, "75801731e14f838ecc58dfb053046ce88f34f61ec355748eb50b2a7d1dc53231"), looks := false }, kinds := [], alts := [], laidByText := true, laidKinds := [.data, .pinned], laidTests := true, laidLooks := .later }
def UpStepsUptoCardSaid : Prop := Claim7.holds Tryd.pinned (.plain (OpenSpec.upto upStepsSpec)) upStepsUptoCard

/-- THE SECOND FORM's CARD OF 'brackenkeep.UpKeeps'. -/
def upKeepsUptoCard : Claim7 := { stood := { row := upKeepsUptoRow, standIns := [], harness := (true, "75801731e14f838ecc58dfb053046ce88f34f61ec355748eb50b2a7d1dc53231"), looks := false }, kinds := [], alts := [], laidByText := true, laidKinds := [.data, .pinned], laidTests := true, laidLooks := .later }
def UpKeepsUptoCardSaid : Prop := Claim7.holds Tryd.pinned (.plain (OpenSpec.upto upKeepsSpec)) upKeepsUptoCard
end Rows
end Go.Proofs.YtbjngeaoimaooaaDoor
