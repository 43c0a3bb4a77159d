/- Walks of the reference's Add, Sub, Mul. Conditions: the arguments are within their kinds. -/
import Derived.Test.YtpdlogpkfnpbpaaDoorFj
namespace Go.Proofs.YtpdlogpkfnpbpaaDoor
open Go.RowKit

theorem qok_inq {q : Rat} (h : InQ q) : QOk q := by
  have h1 := Num.dig_len_one (show q.num.natAbs < 4294967296 by have := h.1; omega)
  have h2 := Num.dig_len_one (show q.den < 4294967296 by have := h.2; omega)
  exact ⟨by omega, by omega⟩

end Go.Proofs.YtpdlogpkfnpbpaaDoor
