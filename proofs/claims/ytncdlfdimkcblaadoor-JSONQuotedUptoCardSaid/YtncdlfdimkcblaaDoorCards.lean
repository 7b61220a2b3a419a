/-
  DERIVED. GIVEN WITH THE SEED: THE CARDS: each row of YtncdlfdimkcblaaDoorRows.lean that lists a variable, with what it lists TIED to the program's text (the seventh form; the later family's looks); each row that meets fmt, with fmt's text TOLD by the authors' own Lean function (tested against real Go, not proved from fmt's source: count such statements apart). THE CARD IS WHAT COUNTS. Prove the row's statement (the work); the ties are given (YtncdlfdimkcblaaDoorTie.lean); close each card by the builder's one call (the guide's Derived/Test/ToyasCard.lean, 'card_holds'). Laid BY PROGRAM, IN A SANDBOX (cutbox-door.mjs). By AI agents, Wed Nov 11 2026. No macro, syntax, notation, axiom, sorry.
-/
import Derived.Test.YtncdlfdimkcblaaDoorRows
import GoSem.ClaimSeven
namespace Go.Proofs.YtncdlfdimkcblaaDoor
namespace Rows

/-- THE TIED CARD OF 'brackenkeep.JSONQuoted'. -/
def jSONQuotedCard : Claim7 := { stood := { row := jSONQuotedRow, standIns := [], harness := (true, "9afc34dc5c7b4f70e05402d72ae1fa8bb724e52b5b71530cf4ae0995b3bd50fb"), looks := true }, kinds := [], alts := [], laidByText := true, laidKinds := [.data, .data, .data, .data, .pinned], laidTests := true, laidLooks := .later }
def JSONQuotedCardSaid : Prop := Claim7.holds Tryd.pinned (.plain (OpenSpec.ofChange jSONQuotedSpec)) jSONQuotedCard

/-- THE TIED CARD OF 'brackenkeep.JSONParts'. -/
def jSONPartsCard : Claim7 := { stood := { row := jSONPartsRow, standIns := [], harness := (true, "9afc34dc5c7b4f70e05402d72ae1fa8bb724e52b5b71530cf4ae0995b3bd50fb"), looks := true }, kinds := [], alts := [], laidByText := true, laidKinds := [.data, .data, .data, .data, .pinned], laidTests := true, laidLooks := .later }
def JSONPartsCardSaid : Prop := Claim7.holds Tryd.pinned (.plain (OpenSpec.ofChange jSONPartsSpec)) jSONPartsCard

/-- THE TIED CARD OF 'brackenkeep.JSONBack'. -/
def jSONBackCard : Claim7 := { stood := { row := jSONBackRow, standIns := [], harness := (true, "9afc34dc5c7b4f70e05402d72ae1fa8bb724e52b5b71530cf4ae0995b3bd50fb"), looks := true }, kinds := [], alts := [], laidByText := true, laidKinds := [.data, .data, .data, .data, .sentinel, .sentinel, .pinned], laidTests := true, laidLooks := .later }
def JSONBackCardSaid : Prop := Claim7.holds Tryd.pinned (.plain (OpenSpec.ofChange jSONBackSpec)) jSONBackCard

/-- THE TIED CARD OF 'brackenkeep.JSONCut'. -/
def jSONCutCard : Claim7 := { stood := { row := jSONCutRow, standIns := [], harness := (true, "9afc34dc5c7b4f70e05402d72ae1fa8bb724e52b5b71530cf4ae0995b3bd50fb"), looks := true }, kinds := [], alts := [], laidByText := true, laidKinds := [.data, .data, .data, .data, .sentinel, .sentinel, .pinned], laidTests := true, laidLooks := .later }
def JSONCutCardSaid : Prop := Claim7.holds Tryd.pinned (.plain (OpenSpec.ofChange jSONCutSpec)) jSONCutCard

/-- THE SECOND FORM's CARD OF 'brackenkeep.JSONQuoted'. -/
def jSONQuotedUptoCard : Claim7 := { stood := { row := jSONQuotedUptoRow, standIns := [], harness := (true, "9afc34dc5c7b4f70e05402d72ae1fa8bb724e52b5b71530cf4ae0995b3bd50fb"), looks := true }, kinds := [], alts := [], laidByText := true, laidKinds := [.data, .data, .data, .data, .pinned], laidTests := true, laidLooks := .later }
def JSONQuotedUptoCardSaid : Prop := Claim7.holds Tryd.pinned (.plain (OpenSpec.upto jSONQuotedSpec)) jSONQuotedUptoCard

/-- THE SECOND FORM's CARD OF 'brackenkeep.JSONParts'. -/
def jSONPartsUptoCard : Claim7 := { stood := { row := jSONPartsUptoRow, standIns := [], harness := (true, "9afc34dc5c7b4f70e05402d72ae1fa8bb724e52b5b71530cf4ae0995b3bd50fb"), looks := true }, kinds := [], alts := [], laidByText := true, laidKinds := [.data, .data, .data, .data, .pinned], laidTests := true, laidLooks := .later }
def JSONPartsUptoCardSaid : Prop := Claim7.holds Tryd.pinned (.plain (OpenSpec.upto jSONPartsSpec)) jSONPartsUptoCard

/-- THE SECOND FORM's CARD OF 'brackenkeep.JSONBack'. -/
def jSONBackUptoCard : Claim7 := { stood := { row := jSONBackUptoRow, standIns := [], harness := (true, "9afc34dc5c7b4f70e05402d72ae1fa8bb724e52b5b71530cf4ae0995b3bd50fb"), looks := true }, kinds := [], alts := [], laidByText := true, laidKinds := [.data, .data, .data, .data, .sentinel, .sentinel, .pinned], laidTests := true, laidLooks := .later }
def JSONBackUptoCardSaid : Prop := Claim7.holds Tryd.pinned (.plain (OpenSpec.upto jSONBackSpec)) jSONBackUptoCard

/-- THE SECOND FORM's CARD OF 'brackenkeep.JSONCut'. -/
def jSONCutUptoCard : Claim7 := { stood := { row := jSONCutUptoRow, standIns := [], harness := (true, "9afc34dc5c7b4f70e05402d72ae1fa8bb724e52b5b71530cf4ae0995b3bd50fb"), looks := true }, kinds := [], alts := [], laidByText := true, laidKinds := [.data, .data, .data, .data, .sentinel, .sentinel, .pinned], laidTests := true, laidLooks := .later }
def JSONCutUptoCardSaid : Prop := Claim7.holds Tryd.pinned (.plain (OpenSpec.upto jSONCutSpec)) jSONCutUptoCard
end Rows
end Go.Proofs.YtncdlfdimkcblaaDoor
