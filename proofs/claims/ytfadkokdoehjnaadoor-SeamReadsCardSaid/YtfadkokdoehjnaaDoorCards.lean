/-
  DERIVED. GIVEN WITH THE SEED: THE CARDS: each row of YtfadkokdoehjnaaDoorRows.lean that lists a variable, with what it lists TIED to the program's text (the seventh form; the later family's looks); each row that meets fmt, with fmt's text TOLD by the authors' own Lean function (tested against real Go, not proved from fmt's source: count such statements apart). THE CARD IS WHAT COUNTS. Prove the row's statement (the work); the ties are given (YtfadkokdoehjnaaDoorTie.lean); close each card by the builder's one call (the guide's Derived/Test/ToyasCard.lean, 'card_holds'). Laid BY PROGRAM, IN A SANDBOX (cutbox-door.mjs). By AI agents, Wed Nov 11 2026. No macro, syntax, notation, axiom, sorry.
-/
import Derived.Test.YtfadkokdoehjnaaDoorRows
import GoSem.ClaimSeven
namespace Go.Proofs.YtfadkokdoehjnaaDoor
namespace Rows

/-- THE TIED CARD OF 'tranklaw07.SeamTexts'. -/
def seamTextsCard : Claim7 := { stood := { row := seamTextsRow, standIns := [], harness := (true, "8a5bb4f7734cfef464960bf3d88260e18aa921e50fed39728d493fcfaca54480"), looks := true }, kinds := [], alts := [], laidByText := true, laidKinds := [.data, .data, .data, .data, .sentinel, .sentinel, .pinned], laidTests := true, laidLooks := .later }
def SeamTextsCardSaid : Prop := Claim7.holds Tryd.pinned (.plain (OpenSpec.ofChange seamTextsSpec)) seamTextsCard

/-- THE TIED CARD OF 'tranklaw07.SeamReads'. -/
def seamReadsCard : Claim7 := { stood := { row := seamReadsRow, standIns := [], harness := (true, "8a5bb4f7734cfef464960bf3d88260e18aa921e50fed39728d493fcfaca54480"), looks := true }, kinds := [], alts := [], laidByText := true, laidKinds := [.data, .data, .data, .data, .sentinel, .sentinel, .pinned], laidTests := true, laidLooks := .later }
def SeamReadsCardSaid : Prop := Claim7.holds Tryd.pinned (.plain (OpenSpec.ofChange seamReadsSpec)) seamReadsCard

/-- THE SECOND FORM's CARD OF 'tranklaw07.SeamTexts'. -/
def seamTextsUptoCard : Claim7 := { stood := { row := seamTextsUptoRow, standIns := [], harness := (true, "8a5bb4f7734cfef464960bf3d88260e18aa921e50fed39728d493fcfaca54480"), looks := true }, kinds := [], alts := [], laidByText := true, laidKinds := [.data, .data, .data, .data, .sentinel, .sentinel, .pinned], laidTests := true, laidLooks := .later }
def SeamTextsUptoCardSaid : Prop := Claim7.holds Tryd.pinned (.plain (OpenSpec.upto seamTextsSpec)) seamTextsUptoCard

/-- THE SECOND FORM's CARD OF 'tranklaw07.SeamReads'. -/
def seamReadsUptoCard : Claim7 := { stood := { row := seamReadsUptoRow, standIns := [], harness := (true, "8a5bb4f7734cfef464960bf3d88260e18aa921e50fed39728d493fcfaca54480"), looks := true }, kinds := [], alts := [], laidByText := true, laidKinds := [.data, .data, .data, .data, .sentinel, .sentinel, .pinned], laidTests := true, laidLooks := .later }
def SeamReadsUptoCardSaid : Prop := Claim7.holds Tryd.pinned (.plain (OpenSpec.upto seamReadsSpec)) seamReadsUptoCard
end Rows
end Go.Proofs.YtfadkokdoehjnaaDoor
