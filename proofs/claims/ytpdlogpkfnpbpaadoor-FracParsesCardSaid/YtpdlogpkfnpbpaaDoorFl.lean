/- Walks of the reference's Sub, Mul. Conditions: the arguments are within their kinds. -/
import Derived.Test.YtpdlogpkfnpbpaaDoorFk
namespace Go.Proofs.YtpdlogpkfnpbpaaDoor
open Go.RowKit

end Go.Proofs.YtpdlogpkfnpbpaaDoor
