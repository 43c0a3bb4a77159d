/- Walks of the reference's New, Mediant, Add, Sub, Mul, Div. Conditions: the arguments are within their kinds. -/
import Derived.Test.YtpdlogpkfnpbpaaDoorFi
import Derived.Test.YtpdlogpkfnpbpaaDoorFg
namespace Go.Proofs.YtpdlogpkfnpbpaaDoor
open Go.RowKit

end Go.Proofs.YtpdlogpkfnpbpaaDoor
