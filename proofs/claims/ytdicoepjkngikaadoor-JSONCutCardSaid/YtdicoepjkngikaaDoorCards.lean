/-
  DERIVED. GIVEN WITH THE SEED: THE CARDS: each row of YtdicoepjkngikaaDoorRows.lean that lists a variable, with what it lists TIED to the program's text (the seventh form; the later family's looks); each row that meets fmt, with fmt's text TOLD by the authors' own Lean function (tested against real Go, not proved from fmt's source: count such statements apart). THE CARD IS WHAT COUNTS. Prove the row's statement (the work); the ties are given (YtdicoepjkngikaaDoorTie.lean); close each card by the builder's one call (the guide's Derived/Test/ToyasCard.lean, 'card_holds'). Laid BY PROGRAM, IN A SANDBOX (cutbox-door.mjs). By AI agents, Wed Nov 11 2026. No macro, syntax, notation, axiom, sorry.
-/
import Derived.Test.YtdicoepjkngikaaDoorRows
import GoSem.ClaimSeven
namespace Go.Proofs.YtdicoepjkngikaaDoor
namespace Rows

/-- THE TIED CARD OF 'brackenkeep.JSONBack'. -/
def jSONBackCard : Claim7 := { stood := { row := jSONBackRow, standIns := [], harness := (true, "44b22f9116ffe139b7d0523560d2dd637f00748f8f415b18045450c65b855bcb"), looks := true }, kinds := [], alts := [], laidByText := true, laidKinds := [.data, .data, .data, .data, .sentinel, .sentinel, .pinned], laidTests := true, laidLooks := .later }
def JSONBackCardSaid : Prop := Claim7.holds Tryd.pinned (.plain (OpenSpec.ofChange jSONBackSpec)) jSONBackCard

/-- THE TIED CARD OF 'brackenkeep.JSONCut'. -/
def jSONCutCard : Claim7 := { stood := { row := jSONCutRow, standIns := [], harness := (true, "44b22f9116ffe139b7d0523560d2dd637f00748f8f415b18045450c65b855bcb"), looks := true }, kinds := [], alts := [], laidByText := true, laidKinds := [.data, .data, .data, .data, .sentinel, .sentinel, .pinned], laidTests := true, laidLooks := .later }
def JSONCutCardSaid : Prop := Claim7.holds Tryd.pinned (.plain (OpenSpec.ofChange jSONCutSpec)) jSONCutCard

/-- THE SECOND FORM's CARD OF 'brackenkeep.JSONBack'. -/
def jSONBackUptoCard : Claim7 := { stood := { row := jSONBackUptoRow, standIns := [], harness := (true, "44b22f9116ffe139b7d0523560d2dd637f00748f8f415b18045450c65b855bcb"), looks := true }, kinds := [], alts := [], laidByText := true, laidKinds := [.data, .data, .data, .data, .sentinel, .sentinel, .pinned], laidTests := true, laidLooks := .later }
def JSONBackUptoCardSaid : Prop := Claim7.holds Tryd.pinned (.plain (OpenSpec.upto jSONBackSpec)) jSONBackUptoCard

/-- THE SECOND FORM's CARD OF 'brackenkeep.JSONCut'. -/
def jSONCutUptoCard : Claim7 := { stood := { row := jSONCutUptoRow, standIns := [], harness := (true, "44b22f9116ffe139b7d0523560d2dd637f00748f8f415b18045450c65b855bcb"), looks := true }, kinds := [], alts := [], laidByText := true, laidKinds := [.data, .data, .data, .data, .sentinel, .sentinel, .pinned], laidTests := true, laidLooks := .later }
def JSONCutUptoCardSaid : Prop := Claim7.holds Tryd.pinned (.plain (OpenSpec.upto jSONCutSpec)) jSONCutUptoCard
end Rows
end Go.Proofs.YtdicoepjkngikaaDoor
