/-
  DERIVED. GIVEN WITH THE SEED: THE CARDS: each row of YtejdhcipmkaboaaDoorRows.lean that lists a variable, with what it lists TIED to the program's text (the seventh form; the later family's looks); each row that meets fmt, with fmt's text TOLD by the authors' own Lean function (tested against real Go, not proved from fmt's source: count such statements apart). THE CARD IS WHAT COUNTS. Prove the row's statement (the work); the ties are given (YtejdhcipmkaboaaDoorTie.lean); close each card by the builder's one call (the guide's Derived/Test/ToyasCard.lean, 'card_holds'). Laid BY PROGRAM, IN A SANDBOX (cutbox-door.mjs). By AI agents, Wed Nov 11 2026. No macro, syntax, notation, axiom, sorry.
-/
import Derived.Test.YtejdhcipmkaboaaDoorRows
import GoSem.ClaimSeven
namespace Go.Proofs.YtejdhcipmkaboaaDoor
namespace Rows

/-- THE TIED CARD OF 'brackenkeep.WireBack'. -/
def wireBackCard : Claim7 := { stood := { row := wireBackRow, standIns := [], harness := (true, "f83c7c6a767ac8c08dcb293bd2c007dd033fc976498c4f088b5451494691f19a"), looks := false }, kinds := [], alts := [], laidByText := true, laidKinds := [.data, .pinned], laidTests := true, laidLooks := .later }
def WireBackCardSaid : Prop := Claim7.holds Tryd.pinned (.plain (OpenSpec.ofChange wireBackSpec)) wireBackCard

/-- THE TIED CARD OF 'brackenkeep.WireCut'. -/
def wireCutCard : Claim7 := { stood := { row := wireCutRow, standIns := [], harness := (true, "f83c7c6a767ac8c08dcb293bd2c007dd033fc976498c4f088b5451494691f19a"), looks := false }, kinds := [], alts := [], laidByText := true, laidKinds := [.data, .pinned], laidTests := true, laidLooks := .later }
def WireCutCardSaid : Prop := Claim7.holds Tryd.pinned (.plain (OpenSpec.ofChange wireCutSpec)) wireCutCard

/-- THE TIED CARD OF 'brackenkeep.WireOne'. -/
def wireOneCard : Claim7 := { stood := { row := wireOneRow, standIns := [], harness := (true, "f83c7c6a767ac8c08dcb293bd2c007dd033fc976498c4f088b5451494691f19a"), looks := false }, kinds := [], alts := [], laidByText := true, laidKinds := [.data, .pinned], laidTests := true, laidLooks := .later }
def WireOneCardSaid : Prop := Claim7.holds Tryd.pinned (.plain (OpenSpec.ofChange wireOneSpec)) wireOneCard

/-- THE TIED CARD OF 'brackenkeep.WireSizes'. -/
def wireSizesCard : Claim7 := { stood := { row := wireSizesRow, standIns := [], harness := (true, "f83c7c6a767ac8c08dcb293bd2c007dd033fc976498c4f088b5451494691f19a"), looks := false }, kinds := [], alts := [], laidByText := true, laidKinds := [.data, .pinned], laidTests := true, laidLooks := .later }
def WireSizesCardSaid : Prop := Claim7.holds Tryd.pinned (.plain (OpenSpec.ofChange wireSizesSpec)) wireSizesCard

/-- THE TIED CARD OF 'brackenkeep.WireFramed'. -/
def wireFramedCard : Claim7 := { stood := { row := wireFramedRow, standIns := [], harness := (true, "f83c7c6a767ac8c08dcb293bd2c007dd033fc976498c4f088b5451494691f19a"), looks := false }, kinds := [], alts := [], laidByText := true, laidKinds := [.data, .pinned], laidTests := true, laidLooks := .later }
def WireFramedCardSaid : Prop := Claim7.holds Tryd.pinned (.plain (OpenSpec.ofChange wireFramedSpec)) wireFramedCard

/-- THE TIED CARD OF 'brackenkeep.UpSteps'. -/
def upStepsCard : Claim7 := { stood := { row := upStepsRow, standIns := [], harness := (true, "f83c7c6a767ac8c08dcb293bd2c007dd033fc976498c4f088b5451494691f19a"), looks := false }, kinds := [], alts := [], laidByText := true, laidKinds := [.data, .pinned], laidTests := true, laidLooks := .later }
def UpStepsCardSaid : Prop := Claim7.holds Tryd.pinned (.plain (OpenSpec.ofChange upStepsSpec)) upStepsCard

/-- THE TIED CARD OF 'brackenkeep.UpKeeps'. -/
def upKeepsCard : Claim7 := { stood := { row := upKeepsRow, standIns := [], harness := (true, "f83c7c6a767ac8c08dcb293bd2c007dd033fc976498c4f088b5451494691f19a"), looks := false }, kinds := [], alts := [], laidByText := true, laidKinds := [.data, .pinned], laidTests := true, laidLooks := .later }
def UpKeepsCardSaid : Prop := Claim7.holds Tryd.pinned (.plain (OpenSpec.ofChange upKeepsSpec)) upKeepsCard

/-- THE TIED CARD OF 'brackenkeep.UpDown'. -/
def upDownCard : Claim7 := { stood := { row := upDownRow, standIns := [], harness := (true, "f83c7c6a767ac8c08dcb293bd2c007dd033fc976498c4f088b5451494691f19a"), looks := false }, kinds := [], alts := [], laidByText := true, laidKinds := [.data, .pinned], laidTests := true, laidLooks := .later }
def UpDownCardSaid : Prop := Claim7.holds Tryd.pinned (.plain (OpenSpec.ofChange upDownSpec)) upDownCard

/-- THE TIED CARD OF 'brackenkeep.UpLost'. -/
def upLostCard : Claim7 := { stood := { row := upLostRow, standIns := [], harness := (true, "f83c7c6a767ac8c08dcb293bd2c007dd033fc976498c4f088b5451494691f19a"), looks := false }, kinds := [], alts := [], laidByText := true, laidKinds := [.data, .pinned], laidTests := true, laidLooks := .later }
def UpLostCardSaid : Prop := Claim7.holds Tryd.pinned (.plain (OpenSpec.ofChange upLostSpec)) upLostCard

/-- THE TIED CARD OF 'brackenkeep.UpWires'. -/
def upWiresCard : Claim7 := { stood := { row := upWiresRow, standIns := [], harness := (true, "f83c7c6a767ac8c08dcb293bd2c007dd033fc976498c4f088b5451494691f19a"), looks := false }, kinds := [], alts := [], laidByText := true, laidKinds := [.data, .pinned], laidTests := true, laidLooks := .later }
def UpWiresCardSaid : Prop := Claim7.holds Tryd.pinned (.plain (OpenSpec.ofChange upWiresSpec)) upWiresCard

/-- THE TIED CARD OF 'brackenkeep.UpRound'. -/
def upRoundCard : Claim7 := { stood := { row := upRoundRow, standIns := [], harness := (true, "f83c7c6a767ac8c08dcb293bd2c007dd033fc976498c4f088b5451494691f19a"), looks := false }, kinds := [], alts := [], laidByText := true, laidKinds := [.data, .pinned], laidTests := true, laidLooks := .later }
def UpRoundCardSaid : Prop := Claim7.holds Tryd.pinned (.plain (OpenSpec.ofChange upRoundSpec)) upRoundCard

/-- THE SECOND FORM's CARD OF 'brackenkeep.WireBack'. -/
def wireBackUptoCard : Claim7 := { stood := { row := wireBackUptoRow, standIns := [], harness := (true, "f83c7c6a767ac8c08dcb293bd2c007dd033fc976498c4f088b5451494691f19a"), looks := false }, kinds := [], alts := [], laidByText := true, laidKinds := [.data, .pinned], laidTests := true, laidLooks := .later }
def WireBackUptoCardSaid : Prop := Claim7.holds Tryd.pinned (.plain (OpenSpec.upto wireBackSpec)) wireBackUptoCard

/-- THE SECOND FORM's CARD OF 'brackenkeep.WireCut'. -/
def wireCutUptoCard : Claim7 := { stood := { row := wireCutUptoRow, standIns := [], harness := (true, "f83c7c6a767ac8c08dcb293bd2c007dd033fc976498c4f088b5451494691f19a"), looks := false }, kinds := [], alts := [], laidByText := true, laidKinds := [.data, .pinned], laidTests := true, laidLooks := .later }
def WireCutUptoCardSaid : Prop := Claim7.holds Tryd.pinned (.plain (OpenSpec.upto wireCutSpec)) wireCutUptoCard

/-- THE SECOND FORM's CARD OF 'brackenkeep.WireOne'. -/
def wireOneUptoCard : Claim7 := { stood := { row := wireOneUptoRow, standIns := [], harness := (true, "f83c7c6a767ac8c08dcb293bd2c007dd033fc976498c4f088b5451494691f19a"), looks := false }, kinds := [], alts := [], laidByText := true, laidKinds := [.data, .pinned], laidTests := true, laidLooks := .later }
def WireOneUptoCardSaid : Prop := Claim7.holds Tryd.pinned (.plain (OpenSpec.upto wireOneSpec)) wireOneUptoCard

/-- THE SECOND FORM's CARD OF 'brackenkeep.WireSizes'. -/
def wireSizesUptoCard : Claim7 := { stood := { row := wireSizesUptoRow, standIns := [], harness := (true, "f83c7c6a767ac8c08dcb293bd2c007dd033fc976498c4f088b5451494691f19a"), looks := false }, kinds := [], alts := [], laidByText := true, laidKinds := [.data, .pinned], laidTests := true, laidLooks := .later }
def WireSizesUptoCardSaid : Prop := Claim7.holds Tryd.pinned (.plain (OpenSpec.upto wireSizesSpec)) wireSizesUptoCard

/-- THE SECOND FORM's CARD OF 'brackenkeep.WireFramed'. -/
def wireFramedUptoCard : Claim7 := { stood := { row := wireFramedUptoRow, standIns := [], harness := (true, "f83c7c6a767ac8c08dcb293bd2c007dd033fc976498c4f088b5451494691f19a"), looks := false }, kinds := [], alts := [], laidByText := true, laidKinds := [.data, .pinned], laidTests := true, laidLooks := .later }
def WireFramedUptoCardSaid : Prop := Claim7.holds Tryd.pinned (.plain (OpenSpec.upto wireFramedSpec)) wireFramedUptoCard

/-- THE SECOND FORM's CARD OF 'brackenkeep.UpSteps'. -/
def upStepsUptoCard : Claim7 := { stood := { row := upStepsUptoRow, standIns := [], harness := (true, "f83c7c6a767ac8c08dcb293bd2c007dd033fc976498c4f088b5451494691f19a"), looks := false }, kinds := [], alts := [], laidByText := true, laidKinds := [.data, .pinned], laidTests := true, laidLooks := .later }
def UpStepsUptoCardSaid : Prop := Claim7.holds Tryd.pinned (.plain (OpenSpec.upto upStepsSpec)) upStepsUptoCard

/-- THE SECOND FORM's CARD OF 'brackenkeep.UpKeeps'. -/
def upKeepsUptoCard : Claim7 := { stood := { row := upKeepsUptoRow, standIns := [], harness := (true, "f83c7c6a767ac8c08dcb293bd2c007dd033fc976498c4f088b5451494691f19a"), looks := false }, kinds := [], alts := [], laidByText := true, laidKinds := [.data, .pinned], laidTests := true, laidLooks := .later }
def UpKeepsUptoCardSaid : Prop := Claim7.holds Tryd.pinned (.plain (OpenSpec.upto upKeepsSpec)) upKeepsUptoCard

/-- THE SECOND FORM's CARD OF 'brackenkeep.UpDown'. -/
def upDownUptoCard : Claim7 := { stood := { row := upDownUptoRow, standIns := [], harness := (true, "f83c7c6a767ac8c08dcb293bd2c007dd033fc976498c4f088b5451494691f19a"), looks := false }, kinds := [], alts := [], laidByText := true, laidKinds := [.data, .pinned], laidTests := true, laidLooks := .later }
def UpDownUptoCardSaid : Prop := Claim7.holds Tryd.pinned (.plain (OpenSpec.upto upDownSpec)) upDownUptoCard

/-- THE SECOND FORM's CARD OF 'brackenkeep.UpLost'. -/
def upLostUptoCard : Claim7 := { stood := { row := upLostUptoRow, standIns := [], harness := (true, "f83c7c6a767ac8c08dcb293bd2c007dd033fc976498c4f088b5451494691f19a"), looks := false }, kinds := [], alts := [], laidByText := true, laidKinds := [.data, .pinned], laidTests := true, laidLooks := .later }
def UpLostUptoCardSaid : Prop := Claim7.holds Tryd.pinned (.plain (OpenSpec.upto upLostSpec)) upLostUptoCard

/-- THE SECOND FORM's CARD OF 'brackenkeep.UpWires'. -/
def upWiresUptoCard : Claim7 := { stood := { row := upWiresUptoRow, standIns := [], harness := (true, "f83c7c6a767ac8c08dcb293bd2c007dd033fc976498c4f088b5451494691f19a"), looks := false }, kinds := [], alts := [], laidByText := true, laidKinds := [.data, .pinned], laidTests := true, laidLooks := .later }
def UpWiresUptoCardSaid : Prop := Claim7.holds Tryd.pinned (.plain (OpenSpec.upto upWiresSpec)) upWiresUptoCard

/-- THE SECOND FORM's CARD OF 'brackenkeep.UpRound'. -/
def upRoundUptoCard : Claim7 := { stood := { row := upRoundUptoRow, standIns := [], harness := (true, "f83c7c6a767ac8c08dcb293bd2c007dd033fc976498c4f088b5451494691f19a"), looks := false }, kinds := [], alts := [], laidByText := true, laidKinds := [.data, .pinned], laidTests := true, laidLooks := .later }
def UpRoundUptoCardSaid : Prop := Claim7.holds Tryd.pinned (.plain (OpenSpec.upto upRoundSpec)) upRoundUptoCard
end Rows
end Go.Proofs.YtejdhcipmkaboaaDoor
