/-
  DERIVED. GIVEN WITH THE SEED: THE CARDS: each row of YtmgofdgbenfjmaaDoorRows.lean that lists a variable, with what it lists TIED to the program's text (the seventh form; the later family's looks); each row that meets fmt, with fmt's text TOLD by the authors' own Lean function (tested against real Go, not proved from fmt's source: count such statements apart). THE CARD IS WHAT COUNTS. Prove the row's statement (the work); the ties are given (YtmgofdgbenfjmaaDoorTie.lean); close each card by the builder's one call (the guide's Derived/Test/ToyasCard.lean, 'card_holds'). Laid BY PROGRAM, IN A SANDBOX (cutbox-door.mjs). By AI agents, Wed Nov 11 2026. No macro, syntax, notation, axiom, sorry.
-/
import Derived.Test.YtmgofdgbenfjmaaDoorRows
import GoSem.ClaimSeven
namespace Go.Proofs.YtmgofdgbenfjmaaDoor
namespace Rows

/-- THE TIED CARD OF 'tranklaw03.SkinParts'. -/
def skinPartsCard : Claim7 := { stood := { row := skinPartsRow, standIns := [], harness := (true, "83b1a0e9a685a29c588d726a6dd555a51025fbc2b2e154ad79b4980610db0b77"), looks := false }, kinds := [], alts := [], laidByText := true, laidKinds := [.data, .pinned], laidTests := true, laidLooks := .later }
def SkinPartsCardSaid : Prop := Claim7.holds Tryd.pinned (.plain (OpenSpec.ofChange skinPartsSpec)) skinPartsCard

/-- THE TIED CARD OF 'tranklaw03.SkinMaximal'. -/
def skinMaximalCard : Claim7 := { stood := { row := skinMaximalRow, standIns := [], harness := (true, "83b1a0e9a685a29c588d726a6dd555a51025fbc2b2e154ad79b4980610db0b77"), looks := false }, kinds := [], alts := [], laidByText := true, laidKinds := [.data, .pinned], laidTests := true, laidLooks := .later }
def SkinMaximalCardSaid : Prop := Claim7.holds Tryd.pinned (.plain (OpenSpec.ofChange skinMaximalSpec)) skinMaximalCard

/-- THE TIED CARD OF 'tranklaw03.SkinLargest'. -/
def skinLargestCard : Claim7 := { stood := { row := skinLargestRow, standIns := [], harness := (true, "83b1a0e9a685a29c588d726a6dd555a51025fbc2b2e154ad79b4980610db0b77"), looks := false }, kinds := [], alts := [], laidByText := true, laidKinds := [.data, .pinned], laidTests := true, laidLooks := .later }
def SkinLargestCardSaid : Prop := Claim7.holds Tryd.pinned (.plain (OpenSpec.ofChange skinLargestSpec)) skinLargestCard

/-- THE TIED CARD OF 'tranklaw03.SkinWithin'. -/
def skinWithinCard : Claim7 := { stood := { row := skinWithinRow, standIns := [], harness := (true, "83b1a0e9a685a29c588d726a6dd555a51025fbc2b2e154ad79b4980610db0b77"), looks := false }, kinds := [], alts := [], laidByText := true, laidKinds := [.data, .pinned], laidTests := true, laidLooks := .later }
def SkinWithinCardSaid : Prop := Claim7.holds Tryd.pinned (.plain (OpenSpec.ofChange skinWithinSpec)) skinWithinCard

/-- THE TIED CARD OF 'tranklaw03.SkinPacks'. -/
def skinPacksCard : Claim7 := { stood := { row := skinPacksRow, standIns := [], harness := (true, "83b1a0e9a685a29c588d726a6dd555a51025fbc2b2e154ad79b4980610db0b77"), looks := false }, kinds := [], alts := [], laidByText := true, laidKinds := [.data, .data, .data, .data, .pinned], laidTests := true, laidLooks := .later }
def SkinPacksCardSaid : Prop := Claim7.holds Tryd.pinned (.plain (OpenSpec.ofChange skinPacksSpec)) skinPacksCard

/-- THE TIED CARD OF 'tranklaw03.SkinFewest'. -/
def skinFewestCard : Claim7 := { stood := { row := skinFewestRow, standIns := [], harness := (true, "83b1a0e9a685a29c588d726a6dd555a51025fbc2b2e154ad79b4980610db0b77"), looks := false }, kinds := [], alts := [], laidByText := true, laidKinds := [.data, .pinned], laidTests := true, laidLooks := .later }
def SkinFewestCardSaid : Prop := Claim7.holds Tryd.pinned (.plain (OpenSpec.ofChange skinFewestSpec)) skinFewestCard

/-- THE TIED CARD OF 'tranklaw03.SkinLeast'. -/
def skinLeastCard : Claim7 := { stood := { row := skinLeastRow, standIns := [], harness := (true, "83b1a0e9a685a29c588d726a6dd555a51025fbc2b2e154ad79b4980610db0b77"), looks := false }, kinds := [], alts := [], laidByText := true, laidKinds := [.data, .pinned], laidTests := true, laidLooks := .later }
def SkinLeastCardSaid : Prop := Claim7.holds Tryd.pinned (.plain (OpenSpec.ofChange skinLeastSpec)) skinLeastCard

/-- THE TIED CARD OF 'tranklaw03.SkinUnpacks'. -/
def skinUnpacksCard : Claim7 := { stood := { row := skinUnpacksRow, standIns := [], harness := (true, "83b1a0e9a685a29c588d726a6dd555a51025fbc2b2e154ad79b4980610db0b77"), looks := false }, kinds := [], alts := [], laidByText := true, laidKinds := [.data, .data, .data, .data, .pinned], laidTests := true, laidLooks := .later }
def SkinUnpacksCardSaid : Prop := Claim7.holds Tryd.pinned (.plain (OpenSpec.ofChange skinUnpacksSpec)) skinUnpacksCard

/-- THE TIED CARD OF 'tranklaw03.SkinAround'. -/
def skinAroundCard : Claim7 := { stood := { row := skinAroundRow, standIns := [], harness := (true, "83b1a0e9a685a29c588d726a6dd555a51025fbc2b2e154ad79b4980610db0b77"), looks := false }, kinds := [], alts := [], laidByText := true, laidKinds := [.data, .pinned], laidTests := true, laidLooks := .later }
def SkinAroundCardSaid : Prop := Claim7.holds Tryd.pinned (.plain (OpenSpec.ofChange skinAroundSpec)) skinAroundCard

/-- THE SECOND FORM's CARD OF 'tranklaw03.SkinParts'. -/
def skinPartsUptoCard : Claim7 := { stood := { row := skinPartsUptoRow, standIns := [], harness := (true, "83b1a0e9a685a29c588d726a6dd555a51025fbc2b2e154ad79b4980610db0b77"), looks := false }, kinds := [], alts := [], laidByText := true, laidKinds := [.data, .pinned], laidTests := true, laidLooks := .later }
def SkinPartsUptoCardSaid : Prop := Claim7.holds Tryd.pinned (.plain (OpenSpec.upto skinPartsSpec)) skinPartsUptoCard

/-- THE SECOND FORM's CARD OF 'tranklaw03.SkinMaximal'. -/
def skinMaximalUptoCard : Claim7 := { stood := { row := skinMaximalUptoRow, standIns := [], harness := (true, "83b1a0e9a685a29c588d726a6dd555a51025fbc2b2e154ad79b4980610db0b77"), looks := false }, kinds := [], alts := [], laidByText := true, laidKinds := [.data, .pinned], laidTests := true, laidLooks := .later }
def SkinMaximalUptoCardSaid : Prop := Claim7.holds Tryd.pinned (.plain (OpenSpec.upto skinMaximalSpec)) skinMaximalUptoCard

/-- THE SECOND FORM's CARD OF 'tranklaw03.SkinLargest'. -/
def skinLargestUptoCard : Claim7 := { stood := { row := skinLargestUptoRow, standIns := [], harness := (true, "83b1a0e9a685a29c588d726a6dd555a51025fbc2b2e154ad79b4980610db0b77"), looks := false }, kinds := [], alts := [], laidByText := true, laidKinds := [.data, .pinned], laidTests := true, laidLooks := .later }
def SkinLargestUptoCardSaid : Prop := Claim7.holds Tryd.pinned (.plain (OpenSpec.upto skinLargestSpec)) skinLargestUptoCard

/-- THE SECOND FORM's CARD OF 'tranklaw03.SkinWithin'. -/
def skinWithinUptoCard : Claim7 := { stood := { row := skinWithinUptoRow, standIns := [], harness := (true, "83b1a0e9a685a29c588d726a6dd555a51025fbc2b2e154ad79b4980610db0b77"), looks := false }, kinds := [], alts := [], laidByText := true, laidKinds := [.data, .pinned], laidTests := true, laidLooks := .later }
def SkinWithinUptoCardSaid : Prop := Claim7.holds Tryd.pinned (.plain (OpenSpec.upto skinWithinSpec)) skinWithinUptoCard

/-- THE SECOND FORM's CARD OF 'tranklaw03.SkinPacks'. -/
def skinPacksUptoCard : Claim7 := { stood := { row := skinPacksUptoRow, standIns := [], harness := (true, "83b1a0e9a685a29c588d726a6dd555a51025fbc2b2e154ad79b4980610db0b77"), looks := false }, kinds := [], alts := [], laidByText := true, laidKinds := [.data, .data, .data, .data, .pinned], laidTests := true, laidLooks := .later }
def SkinPacksUptoCardSaid : Prop := Claim7.holds Tryd.pinned (.plain (OpenSpec.upto skinPacksSpec)) skinPacksUptoCard

/-- THE SECOND FORM's CARD OF 'tranklaw03.SkinFewest'. -/
def skinFewestUptoCard : Claim7 := { stood := { row := skinFewestUptoRow, standIns := [], harness := (true, "83b1a0e9a685a29c588d726a6dd555a51025fbc2b2e154ad79b4980610db0b77"), looks := false }, kinds := [], alts := [], laidByText := true, laidKinds := [.data, .pinned], laidTests := true, laidLooks := .later }
def SkinFewestUptoCardSaid : Prop := Claim7.holds Tryd.pinned (.plain (OpenSpec.upto skinFewestSpec)) skinFewestUptoCard

/-- THE SECOND FORM's CARD OF 'tranklaw03.SkinLeast'. -/
def skinLeastUptoCard : Claim7 := { stood := { row := skinLeastUptoRow, standIns := [], harness := (true, "83b1a0e9a685a29c588d726a6dd555a51025fbc2b2e154ad79b4980610db0b77"), looks := false }, kinds := [], alts := [], laidByText := true, laidKinds := [.data, .pinned], laidTests := true, laidLooks := .later }
def SkinLeastUptoCardSaid : Prop := Claim7.holds Tryd.pinned (.plain (OpenSpec.upto skinLeastSpec)) skinLeastUptoCard

/-- THE SECOND FORM's CARD OF 'tranklaw03.SkinUnpacks'. -/
def skinUnpacksUptoCard : Claim7 := { stood := { row := skinUnpacksUptoRow, standIns := [], harness := (true, "83b1a0e9a685a29c588d726a6dd555a51025fbc2b2e154ad79b4980610db0b77"), looks := false }, kinds := [], alts := [], laidByText := true, laidKinds := [.data, .data, .data, .data, .pinned], laidTests := true, laidLooks := .later }
def SkinUnpacksUptoCardSaid : Prop := Claim7.holds Tryd.pinned (.plain (OpenSpec.upto skinUnpacksSpec)) skinUnpacksUptoCard

/-- THE SECOND FORM's CARD OF 'tranklaw03.SkinAround'. -/
def skinAroundUptoCard : Claim7 := { stood := { row := skinAroundUptoRow, standIns := [], harness := (true, "83b1a0e9a685a29c588d726a6dd555a51025fbc2b2e154ad79b4980610db0b77"), looks := false }, kinds := [], alts := [], laidByText := true, laidKinds := [.data, .pinned], laidTests := true, laidLooks := .later }
def SkinAroundUptoCardSaid : Prop := Claim7.holds Tryd.pinned (.plain (OpenSpec.upto skinAroundSpec)) skinAroundUptoCard
end Rows
end Go.Proofs.YtmgofdgbenfjmaaDoor
