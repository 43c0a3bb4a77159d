/-
  DERIVED. GIVEN WITH THE SEED: THE CARDS: each row of YtdkoomcgnaokgaaDoorRows.lean that lists a variable, with what it lists TIED to the program's text (the seventh form; the later family's looks); each row that meets fmt, with fmt's text TOLD by the authors' own Lean function (tested against real Go, not proved from fmt's source: count such statements apart). THE CARD IS WHAT COUNTS. Prove the row's statement (the work); the ties are given (YtdkoomcgnaokgaaDoorTie.lean); close each card by the builder's one call (the guide's Derived/Test/ToyasCard.lean, 'card_holds'). Laid BY PROGRAM, IN A SANDBOX (cutbox-door.mjs). By AI agents, Wed Nov 11 2026. No macro, syntax, notation, axiom, sorry.
-/
import Derived.Test.YtdkoomcgnaokgaaDoorRows
import GoSem.ClaimSeven
namespace Go.Proofs.YtdkoomcgnaokgaaDoor
namespace Rows

/-- THE TIED CARD OF 'tranklaw03.SkinParts'. -/
def skinPartsCard : Claim7 := { stood := { row := skinPartsRow, standIns := [], harness := (true, "89fe715fbf8cab81b1b22750904894489ed2a0f5680e0ea7c9649e0f37bc3187"), looks := false }, kinds := [], alts := [], laidByText := true, laidKinds := [.data, .pinned], laidTests := true, laidLooks := .later }
def SkinPartsCardSaid : Prop := Claim7.holds Tryd.pinned (.plain (OpenSpec.ofChange skinPartsSpec)) skinPartsCard

/-- THE TIED CARD OF 'tranklaw03.SkinNobody'. -/
def skinNobodyCard : Claim7 := { stood := { row := skinNobodyRow, standIns := [], harness := (true, "89fe715fbf8cab81b1b22750904894489ed2a0f5680e0ea7c9649e0f37bc3187"), looks := false }, kinds := [], alts := [], laidByText := true, laidKinds := [.data, .pinned], laidTests := true, laidLooks := .later }
def SkinNobodyCardSaid : Prop := Claim7.holds Tryd.pinned (.plain (OpenSpec.ofChange skinNobodySpec)) skinNobodyCard

/-- THE TIED CARD OF 'tranklaw03.SkinCounts'. -/
def skinCountsCard : Claim7 := { stood := { row := skinCountsRow, standIns := [], harness := (true, "89fe715fbf8cab81b1b22750904894489ed2a0f5680e0ea7c9649e0f37bc3187"), looks := false }, kinds := [], alts := [], laidByText := true, laidKinds := [.data, .pinned], laidTests := true, laidLooks := .later }
def SkinCountsCardSaid : Prop := Claim7.holds Tryd.pinned (.plain (OpenSpec.ofChange skinCountsSpec)) skinCountsCard

/-- THE TIED CARD OF 'tranklaw03.SkinGrades'. -/
def skinGradesCard : Claim7 := { stood := { row := skinGradesRow, standIns := [], harness := (true, "89fe715fbf8cab81b1b22750904894489ed2a0f5680e0ea7c9649e0f37bc3187"), looks := false }, kinds := [], alts := [], laidByText := true, laidKinds := [.data, .pinned], laidTests := true, laidLooks := .later }
def SkinGradesCardSaid : Prop := Claim7.holds Tryd.pinned (.plain (OpenSpec.ofChange skinGradesSpec)) skinGradesCard

/-- THE TIED CARD OF 'tranklaw03.SkinTurns'. -/
def skinTurnsCard : Claim7 := { stood := { row := skinTurnsRow, standIns := [], harness := (true, "89fe715fbf8cab81b1b22750904894489ed2a0f5680e0ea7c9649e0f37bc3187"), looks := false }, kinds := [], alts := [], laidByText := true, laidKinds := [.data, .pinned], laidTests := true, laidLooks := .later }
def SkinTurnsCardSaid : Prop := Claim7.holds Tryd.pinned (.plain (OpenSpec.ofChange skinTurnsSpec)) skinTurnsCard

/-- THE TIED CARD OF 'tranklaw03.SkinErodes'. -/
def skinErodesCard : Claim7 := { stood := { row := skinErodesRow, standIns := [], harness := (true, "89fe715fbf8cab81b1b22750904894489ed2a0f5680e0ea7c9649e0f37bc3187"), looks := false }, kinds := [], alts := [], laidByText := true, laidKinds := [.data, .pinned], laidTests := true, laidLooks := .later }
def SkinErodesCardSaid : Prop := Claim7.holds Tryd.pinned (.plain (OpenSpec.ofChange skinErodesSpec)) skinErodesCard

/-- THE TIED CARD OF 'tranklaw03.SkinCrops'. -/
def skinCropsCard : Claim7 := { stood := { row := skinCropsRow, standIns := [], harness := (true, "89fe715fbf8cab81b1b22750904894489ed2a0f5680e0ea7c9649e0f37bc3187"), looks := false }, kinds := [], alts := [], laidByText := true, laidKinds := [.data, .pinned], laidTests := true, laidLooks := .later }
def SkinCropsCardSaid : Prop := Claim7.holds Tryd.pinned (.plain (OpenSpec.ofChange skinCropsSpec)) skinCropsCard

/-- THE TIED CARD OF 'tranklaw03.SkinWhole'. -/
def skinWholeCard : Claim7 := { stood := { row := skinWholeRow, standIns := [], harness := (true, "89fe715fbf8cab81b1b22750904894489ed2a0f5680e0ea7c9649e0f37bc3187"), looks := false }, kinds := [], alts := [], laidByText := true, laidKinds := [.data, .pinned], laidTests := true, laidLooks := .later }
def SkinWholeCardSaid : Prop := Claim7.holds Tryd.pinned (.plain (OpenSpec.ofChange skinWholeSpec)) skinWholeCard

/-- THE TIED CARD OF 'tranklaw03.SkinOpened'. -/
def skinOpenedCard : Claim7 := { stood := { row := skinOpenedRow, standIns := [], harness := (true, "89fe715fbf8cab81b1b22750904894489ed2a0f5680e0ea7c9649e0f37bc3187"), looks := false }, kinds := [], alts := [], laidByText := true, laidKinds := [.data, .pinned], laidTests := true, laidLooks := .later }
def SkinOpenedCardSaid : Prop := Claim7.holds Tryd.pinned (.plain (OpenSpec.ofChange skinOpenedSpec)) skinOpenedCard

/-- THE SECOND FORM's CARD OF 'tranklaw03.SkinParts'. -/
def skinPartsUptoCard : Claim7 := { stood := { row := skinPartsUptoRow, standIns := [], harness := (true, "89fe715fbf8cab81b1b22750904894489ed2a0f5680e0ea7c9649e0f37bc3187"), looks := false }, kinds := [], alts := [], laidByText := true, laidKinds := [.data, .pinned], laidTests := true, laidLooks := .later }
def SkinPartsUptoCardSaid : Prop := Claim7.holds Tryd.pinned (.plain (OpenSpec.upto skinPartsSpec)) skinPartsUptoCard

/-- THE SECOND FORM's CARD OF 'tranklaw03.SkinNobody'. -/
def skinNobodyUptoCard : Claim7 := { stood := { row := skinNobodyUptoRow, standIns := [], harness := (true, "89fe715fbf8cab81b1b22750904894489ed2a0f5680e0ea7c9649e0f37bc3187"), looks := false }, kinds := [], alts := [], laidByText := true, laidKinds := [.data, .pinned], laidTests := true, laidLooks := .later }
def SkinNobodyUptoCardSaid : Prop := Claim7.holds Tryd.pinned (.plain (OpenSpec.upto skinNobodySpec)) skinNobodyUptoCard

/-- THE SECOND FORM's CARD OF 'tranklaw03.SkinCounts'. -/
def skinCountsUptoCard : Claim7 := { stood := { row := skinCountsUptoRow, standIns := [], harness := (true, "89fe715fbf8cab81b1b22750904894489ed2a0f5680e0ea7c9649e0f37bc3187"), looks := false }, kinds := [], alts := [], laidByText := true, laidKinds := [.data, .pinned], laidTests := true, laidLooks := .later }
def SkinCountsUptoCardSaid : Prop := Claim7.holds Tryd.pinned (.plain (OpenSpec.upto skinCountsSpec)) skinCountsUptoCard

/-- THE SECOND FORM's CARD OF 'tranklaw03.SkinGrades'. -/
def skinGradesUptoCard : Claim7 := { stood := { row := skinGradesUptoRow, standIns := [], harness := (true, "89fe715fbf8cab81b1b22750904894489ed2a0f5680e0ea7c9649e0f37bc3187"), looks := false }, kinds := [], alts := [], laidByText := true, laidKinds := [.data, .pinned], laidTests := true, laidLooks := .later }
def SkinGradesUptoCardSaid : Prop := Claim7.holds Tryd.pinned (.plain (OpenSpec.upto skinGradesSpec)) skinGradesUptoCard

/-- THE SECOND FORM's CARD OF 'tranklaw03.SkinTurns'. -/
def skinTurnsUptoCard : Claim7 := { stood := { row := skinTurnsUptoRow, standIns := [], harness := (true, "89fe715fbf8cab81b1b22750904894489ed2a0f5680e0ea7c9649e0f37bc3187"), looks := false }, kinds := [], alts := [], laidByText := true, laidKinds := [.data, .pinned], laidTests := true, laidLooks := .later }
def SkinTurnsUptoCardSaid : Prop := Claim7.holds Tryd.pinned (.plain (OpenSpec.upto skinTurnsSpec)) skinTurnsUptoCard

/-- THE SECOND FORM's CARD OF 'tranklaw03.SkinErodes'. -/
def skinErodesUptoCard : Claim7 := { stood := { row := skinErodesUptoRow, standIns := [], harness := (true, "89fe715fbf8cab81b1b22750904894489ed2a0f5680e0ea7c9649e0f37bc3187"), looks := false }, kinds := [], alts := [], laidByText := true, laidKinds := [.data, .pinned], laidTests := true, laidLooks := .later }
def SkinErodesUptoCardSaid : Prop := Claim7.holds Tryd.pinned (.plain (OpenSpec.upto skinErodesSpec)) skinErodesUptoCard

/-- THE SECOND FORM's CARD OF 'tranklaw03.SkinCrops'. -/
def skinCropsUptoCard : Claim7 := { stood := { row := skinCropsUptoRow, standIns := [], harness := (true, "89fe715fbf8cab81b1b22750904894489ed2a0f5680e0ea7c9649e0f37bc3187"), looks := false }, kinds := [], alts := [], laidByText := true, laidKinds := [.data, .pinned], laidTests := true, laidLooks := .later }
def SkinCropsUptoCardSaid : Prop := Claim7.holds Tryd.pinned (.plain (OpenSpec.upto skinCropsSpec)) skinCropsUptoCard

/-- THE SECOND FORM's CARD OF 'tranklaw03.SkinWhole'. -/
def skinWholeUptoCard : Claim7 := { stood := { row := skinWholeUptoRow, standIns := [], harness := (true, "89fe715fbf8cab81b1b22750904894489ed2a0f5680e0ea7c9649e0f37bc3187"), looks := false }, kinds := [], alts := [], laidByText := true, laidKinds := [.data, .pinned], laidTests := true, laidLooks := .later }
def SkinWholeUptoCardSaid : Prop := Claim7.holds Tryd.pinned (.plain (OpenSpec.upto skinWholeSpec)) skinWholeUptoCard

/-- THE SECOND FORM's CARD OF 'tranklaw03.SkinOpened'. -/
def skinOpenedUptoCard : Claim7 := { stood := { row := skinOpenedUptoRow, standIns := [], harness := (true, "89fe715fbf8cab81b1b22750904894489ed2a0f5680e0ea7c9649e0f37bc3187"), looks := false }, kinds := [], alts := [], laidByText := true, laidKinds := [.data, .pinned], laidTests := true, laidLooks := .later }
def SkinOpenedUptoCardSaid : Prop := Claim7.holds Tryd.pinned (.plain (OpenSpec.upto skinOpenedSpec)) skinOpenedUptoCard
end Rows
end Go.Proofs.YtdkoomcgnaokgaaDoor
