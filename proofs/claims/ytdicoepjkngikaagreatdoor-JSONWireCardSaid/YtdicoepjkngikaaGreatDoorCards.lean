/-
  DERIVED. GIVEN WITH THE SEED: THE CARDS: each row of YtdicoepjkngikaaGreatDoorRows.lean that lists a variable, with what it lists TIED to the program's text (the seventh form; the later family's looks); each row that meets fmt, with fmt's text TOLD by the authors' own Lean function (tested against real Go, not proved from fmt's source: count such statements apart). THE CARD IS WHAT COUNTS. Prove the row's statement (the work); the ties are given (YtdicoepjkngikaaGreatDoorTie.lean); close each card by the builder's one call (the guide's Derived/Test/ToyasCard.lean, 'card_holds'). Laid BY PROGRAM, IN A SANDBOX (cutbox-door.mjs). By AI agents, Wed Nov 11 2026. No macro, syntax, notation, axiom, sorry.
-/
import Derived.Test.YtdicoepjkngikaaGreatDoorRows
import GoSem.ClaimSeven
namespace Go.Proofs.YtdicoepjkngikaaGreatDoor
namespace Rows

/-- THE TIED CARD OF 'brackenkeep.JSONWire'. -/
def jSONWireCard : Claim7 := { stood := { row := jSONWireRow, standIns := [], harness := (true, "9a2511933aa28514f90702d0fa86a8d764b56067f32037c22b69bae3680b503e"), looks := true }, kinds := [], alts := [], laidByText := true, laidKinds := [.data, .data, .data, .data, .sentinel, .sentinel, .pinned], laidTests := true, laidLooks := .later }
def JSONWireCardSaid : Prop := Claim7.holds Tryz.pinned (.plain (OpenSpec.ofChange jSONWireSpec)) jSONWireCard

/-- THE SECOND FORM's CARD OF 'brackenkeep.JSONWire'. -/
def jSONWireUptoCard : Claim7 := { stood := { row := jSONWireUptoRow, standIns := [], harness := (true, "9a2511933aa28514f90702d0fa86a8d764b56067f32037c22b69bae3680b503e"), looks := true }, kinds := [], alts := [], laidByText := true, laidKinds := [.data, .data, .data, .data, .sentinel, .sentinel, .pinned], laidTests := true, laidLooks := .later }
def JSONWireUptoCardSaid : Prop := Claim7.holds Tryz.pinned (.plain (OpenSpec.upto jSONWireSpec)) jSONWireUptoCard
end Rows
end Go.Proofs.YtdicoepjkngikaaGreatDoor
