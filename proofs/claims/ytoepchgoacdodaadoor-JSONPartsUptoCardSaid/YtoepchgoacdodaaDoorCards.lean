/-
  DERIVED. GIVEN WITH THE SEED: THE CARDS: each row of YtoepchgoacdodaaDoorRows.lean that lists a variable, with what it lists TIED to the program's text (the seventh form; the later family's looks); each row that meets fmt, with fmt's text TOLD by the authors' own Lean function (tested against real Go, not proved from fmt's source: count such statements apart). THE CARD IS WHAT COUNTS. Prove the row's statement (the work); the ties are given (YtoepchgoacdodaaDoorTie.lean); close each card by the builder's one call (the guide's Derived/Test/ToyasCard.lean, 'card_holds'). Laid BY PROGRAM, IN A SANDBOX (cutbox-door.mjs). By AI agents, Wed Nov 11 2026. No macro, syntax, notation, axiom, sorry.
-/
import Derived.Test.YtoepchgoacdodaaDoorRows
import GoSem.ClaimSeven
namespace Go.Proofs.YtoepchgoacdodaaDoor
namespace Rows

/-- THE TIED CARD OF 'brackenkeep.JSONQuoted'. -/
def jSONQuotedCard : Claim7 := { stood := { row := jSONQuotedRow, standIns := [], harness := (true, "3bcd7ec1c5eb065c06a3e0aa83526989a9a4170ee2240a9b3de40dff17d01ef4"), looks := false }, kinds := [], alts := [], laidByText := true, laidKinds := [.data, .data, .data, .data, .pinned], laidTests := true, laidLooks := .later }
def JSONQuotedCardSaid : Prop := Claim7.holds Tryd.pinned (.plain (OpenSpec.ofChange jSONQuotedSpec)) jSONQuotedCard

/-- THE TIED CARD OF 'brackenkeep.JSONParts'. -/
def jSONPartsCard : Claim7 := { stood := { row := jSONPartsRow, standIns := [], harness := (true, "3bcd7ec1c5eb065c06a3e0aa83526989a9a4170ee2240a9b3de40dff17d01ef4"), looks := false }, kinds := [], alts := [], laidByText := true, laidKinds := [.data, .data, .data, .data, .pinned], laidTests := true, laidLooks := .later }
def JSONPartsCardSaid : Prop := Claim7.holds Tryd.pinned (.plain (OpenSpec.ofChange jSONPartsSpec)) jSONPartsCard

/-- THE SECOND FORM's CARD OF 'brackenkeep.JSONQuoted'. -/
def jSONQuotedUptoCard : Claim7 := { stood := { row := jSONQuotedUptoRow, standIns := [], harness := (true, "3bcd7ec1c5eb065c06a3e0aa83526989a9a4170ee2240a9b3de40dff17d01ef4"), looks := false }, kinds := [], alts := [], laidByText := true, laidKinds := [.data, .data, .data, .data, .pinned], laidTests := true, laidLooks := .later }
def JSONQuotedUptoCardSaid : Prop := Claim7.holds Tryd.pinned (.plain (OpenSpec.upto jSONQuotedSpec)) jSONQuotedUptoCard

/-- THE SECOND FORM's CARD OF 'brackenkeep.JSONParts'. -/
def jSONPartsUptoCard : Claim7 := { stood := { row := jSONPartsUptoRow, standIns := [], harness := (true, "3bcd7ec1c5eb065c06a3e0aa83526989a9a4170ee2240a9b3de40dff17d01ef4"), looks := false }, kinds := [], alts := [], laidByText := true, laidKinds := [.data, .data, .data, .data, .pinned], laidTests := true, laidLooks := .later }
def JSONPartsUptoCardSaid : Prop := Claim7.holds Tryd.pinned (.plain (OpenSpec.upto jSONPartsSpec)) jSONPartsUptoCard
end Rows
end Go.Proofs.YtoepchgoacdodaaDoor
