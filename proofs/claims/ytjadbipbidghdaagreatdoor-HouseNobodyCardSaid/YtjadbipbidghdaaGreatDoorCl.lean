/- The closed facts of HouseNobody's row, each apart (a program of 281 functions: together they outgrow the memory's lid). No conditions. -/
import Derived.Test.YtjadbipbidghdaaGreatDoorShp
import Derived.Test.YtjadbipbidghdaaGreatDoorCards
import Derived.JoinedOf
namespace Go.Proofs.YtjadbipbidghdaaGreatDoor.lawHouseNobody
open Go.ChangeShapes Go.WideShapes Go.ChangeAt Go.RowKit

set_option maxRecDepth 100000 in
set_option maxHeartbeats 40000000 in
theorem closed : joinedFacts Tryz.prog 3 Tryz.f3 Rows.houseNobodySpec Rows.houseNobodyRow = true := by
  unfold joinedFacts
  simp only [Bool.and_eq_true]
  and_intros
  all_goals (as_aux_lemma => kernel_rfl)
end Go.Proofs.YtjadbipbidghdaaGreatDoor.lawHouseNobody
