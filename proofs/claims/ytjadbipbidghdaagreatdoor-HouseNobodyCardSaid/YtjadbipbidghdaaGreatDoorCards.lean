/-
  DERIVED. GIVEN WITH THE SEED: THE CARDS: each row of YtjadbipbidghdaaGreatDoorRows.lean that lists a variable, with what it lists TIED to the program's text (the seventh form; the later family's looks); each row that meets fmt, with fmt's text TOLD by the authors' own Lean function (tested against real Go, not proved from fmt's source: count such statements apart). THE CARD IS WHAT COUNTS. Prove the row's statement (the work); the ties are given (YtjadbipbidghdaaGreatDoorTie.lean); close each card by the builder's one call (the guide's Derived/Test/ToyasCard.lean, 'card_holds'). Laid BY PROGRAM, IN A SANDBOX (cutbox-door.mjs). By AI agents, Wed Nov 11 2026. No macro, syntax, notation, axiom, sorry.
-/
import Derived.Test.YtjadbipbidghdaaGreatDoorRows
import GoSem.ClaimSeven
namespace Go.Proofs.YtjadbipbidghdaaGreatDoor
namespace Rows

/-- THE TIED CARD OF 'tranklaw10.HouseNobody'. -/
def houseNobodyCard : Claim7 := { stood := { row := houseNobodyRow, standIns := [], harness := (true, "b7934c8716fc9623991e7b24916bdfe7c4c66faa2c27b6fe214941754291db70"), looks := true }, kinds := [], alts := [], laidByText := true, laidKinds := [.data, .data, .data, .data, .sentinel, .sentinel, .data, .pinned], laidTests := true, laidLooks := .later }
def HouseNobodyCardSaid : Prop := Claim7.holds Tryz.pinned (.plain (OpenSpec.ofChange houseNobodySpec)) houseNobodyCard

/-- THE SECOND FORM's CARD OF 'tranklaw10.HouseNobody'. -/
def houseNobodyUptoCard : Claim7 := { stood := { row := houseNobodyUptoRow, standIns := [], harness := (true, "b7934c8716fc9623991e7b24916bdfe7c4c66faa2c27b6fe214941754291db70"), looks := true }, kinds := [], alts := [], laidByText := true, laidKinds := [.data, .data, .data, .data, .sentinel, .sentinel, .data, .pinned], laidTests := true, laidLooks := .later }
def HouseNobodyUptoCardSaid : Prop := Claim7.holds Tryz.pinned (.plain (OpenSpec.upto houseNobodySpec)) houseNobodyUptoCard
end Rows
end Go.Proofs.YtjadbipbidghdaaGreatDoor
