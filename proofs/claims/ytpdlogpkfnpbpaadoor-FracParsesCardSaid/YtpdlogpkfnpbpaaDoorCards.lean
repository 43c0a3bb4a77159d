/-
  DERIVED. GIVEN WITH THE SEED: THE CARDS: each row of YtpdlogpkfnpbpaaDoorRows.lean that lists a variable, with what it lists TIED to the program's text (the seventh form; the later family's looks); each row that meets fmt, with fmt's text TOLD by the authors' own Lean function (tested against real Go, not proved from fmt's source: count such statements apart). THE CARD IS WHAT COUNTS. Prove the row's statement (the work); the ties are given (YtpdlogpkfnpbpaaDoorTie.lean); close each card by the builder's one call (the guide's Derived/Test/ToyasCard.lean, 'card_holds'). Laid BY PROGRAM, IN A SANDBOX (cutbox-door.mjs). By AI agents, Wed Nov 11 2026. No macro, syntax, notation, axiom, sorry.
-/
import Derived.Test.YtpdlogpkfnpbpaaDoorRows
import GoSem.ClaimSeven
namespace Go.Proofs.YtpdlogpkfnpbpaaDoor
namespace Rows

/-- THE TIED CARD OF 'tranklaw01.FracPrints'. -/
def fracPrintsCard : Claim7 := { stood := { row := fracPrintsRow, standIns := [], harness := (true, "06ee660a60c4ee55e5b50c54f7203ea85de649f61dbdf0f02de0c861c17b7026"), looks := true }, kinds := [], alts := [], laidByText := true, laidKinds := [.data, .data, .data, .data, .sentinel, .sentinel, .pinned], laidTests := true, laidLooks := .later }
def FracPrintsCardSaid : Prop := Claim7.holds Tryd.pinned (.plain (OpenSpec.ofChange fracPrintsSpec)) fracPrintsCard

/-- THE TIED CARD OF 'tranklaw01.FracParses'. -/
def fracParsesCard : Claim7 := { stood := { row := fracParsesRow, standIns := [], harness := (true, "06ee660a60c4ee55e5b50c54f7203ea85de649f61dbdf0f02de0c861c17b7026"), looks := true }, kinds := [], alts := [], laidByText := true, laidKinds := [.data, .data, .data, .data, .sentinel, .sentinel, .pinned], laidTests := true, laidLooks := .later }
def FracParsesCardSaid : Prop := Claim7.holds Tryd.pinned (.plain (OpenSpec.ofChange fracParsesSpec)) fracParsesCard

/-- THE SECOND FORM's CARD OF 'tranklaw01.FracPrints'. -/
def fracPrintsUptoCard : Claim7 := { stood := { row := fracPrintsUptoRow, standIns := [], harness := (true, "06ee660a60c4ee55e5b50c54f7203ea85de649f61dbdf0f02de0c861c17b7026"), looks := true }, kinds := [], alts := [], laidByText := true, laidKinds := [.data, .data, .data, .data, .sentinel, .sentinel, .pinned], laidTests := true, laidLooks := .later }
def FracPrintsUptoCardSaid : Prop := Claim7.holds Tryd.pinned (.plain (OpenSpec.upto fracPrintsSpec)) fracPrintsUptoCard

/-- THE SECOND FORM's CARD OF 'tranklaw01.FracParses'. -/
def fracParsesUptoCard : Claim7 := { stood := { row := fracParsesUptoRow, standIns := [], harness := (true, "06ee660a60c4ee55e5b50c54f7203ea85de649f61dbdf0f02de0c861c17b7026"), looks := true }, kinds := [], alts := [], laidByText := true, laidKinds := [.data, .data, .data, .data, .sentinel, .sentinel, .pinned], laidTests := true, laidLooks := .later }
def FracParsesUptoCardSaid : Prop := Claim7.holds Tryd.pinned (.plain (OpenSpec.upto fracParsesSpec)) fracParsesUptoCard
end Rows
end Go.Proofs.YtpdlogpkfnpbpaaDoor
