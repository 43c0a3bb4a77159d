/- SkinNobody walked. No conditions. -/
import Derived.Test.YtmgofdgbenfjmaaDoorAw
namespace Go.Proofs.YtmgofdgbenfjmaaDoor
open Go.RowKit

theorem nil_is (W : World) : (binOp .eql 94 (.slice none 0 0) (.slice none 0 0)).run Tryd.prog W = .ok (.bool true) W := by kernel_rfl
end Go.Proofs.YtmgofdgbenfjmaaDoor
