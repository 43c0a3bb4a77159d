/- slices.Equal at ints walked: two slices that read as the same list. -/
import Derived.Test.YtfadkokdoehjnaaDoorWd
namespace Go.Proofs.YtfadkokdoehjnaaDoor
open Go.RowKit

end Go.Proofs.YtfadkokdoehjnaaDoor
