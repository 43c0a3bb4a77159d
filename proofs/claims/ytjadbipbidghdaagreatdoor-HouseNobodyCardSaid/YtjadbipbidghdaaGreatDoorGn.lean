/- HouseNobody's program starts no goroutine. No conditions. -/
import Derived.Test.YtjadbipbidghdaaGreatDoorShp
import Derived.Test.YtjadbipbidghdaaGreatDoorCards
namespace Go.Proofs.YtjadbipbidghdaaGreatDoor.lawHouseNobody
open Go.ChangeShapes Go.WideShapes Go.ChangeAt Go.RowKit

theorem noGo : Tryz.prog.funcs.any Func.goes = false := by kernel_rfl
theorem goes : false = Rows.houseNobodyRow.goesBy Tryz.prog := by
  have hf : Tryz.prog.funcNamed Rows.houseNobodyRow.func = some 3 := by as_aux_lemma => kernel_rfl
  have ha : ∀ g : Nat, (Tryz.prog.funcs[g]?).any Func.goes = false := fun g => by
    cases h : Tryz.prog.funcs[g]? with
    | none => rfl
    | some fn =>
      have hm : fn ∈ Tryz.prog.funcs := Array.mem_of_getElem? h
      have hn := noGo
      rw [Array.any_eq_false'] at hn
      simpa using hn fn hm
  have hs : Rows.houseNobodyRow.start = .entering := rfl
  unfold OpenClaim.goesBy Program.goesAt Program.goesFrom
  rw [hf, hs]
  simp only [Option.any_some, Bool.or_false, Program.goes, noGo, Bool.and_false]
  symm
  rw [List.any_eq_false]
  intro g _
  rw [ha g]
  decide
end Go.Proofs.YtjadbipbidghdaaGreatDoor.lawHouseNobody
